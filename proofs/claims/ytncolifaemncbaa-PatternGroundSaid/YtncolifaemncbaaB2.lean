/- The nodes of a pattern, handed out. -/
import Derived.Test.YtncolifaemncbaaB1
import Derived.Test.YtncolifaemncbaaP0
namespace Go.AE.S
open Go Go.AE
set_option linter.unusedSimpArgs false
set_option linter.unusedVariables false
variable {τ : Tm} {σ : Store} {rd : Option Nat}

def argT (u : Term) : List AV := [.p (.agg u.row)]
def visF (l : Nat) (s : Store) (a : Term) : Store ⊕ Store := match rounds P l (a.pre.map argT) s with
  | some (true, s') => .inl s'
  | some (false, s') => .inr s'
  | none => .inr s
theorem fold_vis (l : Nat) : ∀ (as : List Term) (i : Nat) (s : Store) (b : Bool) (s' : Store), rounds P l ((Term.pres as).map argT) s = some (b, s') → foldE (fun _ s a => visF l s a) i s as = if b = true then .inl s' else .inr s'
  | [], i, s, b, s', h => by
    simp only [Term.pres, List.map_nil, rounds, Option.some.injEq, Prod.mk.injEq] at h
    obtain ⟨rfl, rfl⟩ := h
    rfl
  | a :: as, i, s, b, s', h => by
    simp only [Term.pres, List.map_append, rounds_append] at h
    simp only [foldE, visF]
    cases h1 : rounds P l (a.pre.map argT) s with
    | none => rw [h1] at h; cases h
    | some x =>
      obtain ⟨c, s1⟩ := x
      rw [h1] at h
      cases c with
      | true => exact fold_vis l as (i + 1) s1 b s' h
      | false =>
        simp only [roundsThen, Option.some.injEq, Prod.mk.injEq] at h
        obtain ⟨rfl, rfl⟩ := h
        rfl
abbrev e_vis (l : Nat) (t : Term) (i : Int) : List (Nat × AV) := [(1, .yield l), (12, .p (.lst (t.args.map Term.row))), (13, .p (.int .i64 t.args.length)), (14, .p (.int .i64 i))]
theorem c_visit (l : Nat) (t : Term) : t.count ≤ 1000000 → ∀ (σ σ' : Store) (b : Bool), rounds P l (t.pre.map argT) σ = some (b, σ') → call P F_pattern_visit [.p (.agg t.row), .yield l] σ = some (.p (.bool b), σ') := by
  induction t using Term.ind with
  | h t ih =>
  intro hc σ σ' b hr
  have hlen := Term.counts_len t.args
  have hct := Term.count_eq t
  have hl := rounds_len _ _ _ _ hr
  rw [Term.pre_eq, List.map_cons] at hr
  obtain ⟨c, σ1, h1, h2, h3, h4⟩ := rounds_cons hr
  simp only [argT] at h1
  have gc1 : ∀ vs, gc σ.length vs σ1 = σ1 := fun vs => gc_same' (by omega)
  cases c with
  | false =>
    obtain ⟨rfl, rfl⟩ := h4 rfl
    (rw [call_go (Nat.le_of_ble_eq_true rfl), F_pattern_visit]; simp (disch := omega) only [eqs, eqL, ↓gc_len, seval, -List.reduceReplicate, reduceCtorEq, omap, depth, pcall, pureR, freezeFor, freezeAll, tupR, resV, purR, enterTm, number, gcOk, rangeEnd, mkTup, allP, h1, gc1])
  | true =>
    have h3 := h3 rfl
    have h := loop_foldE (P := P) (nt := 23) (rd := none) (lv := [1, 12, 13, 14]) (b := B0_pattern_visit) (x := 0) (as := t.args) (fun i (_ : Store) => e_vis l t i) (fun s => s) (fun _ s a => visF l s a)
      (fun s => ⟨upd (tm (e_vis l t t.args.length)) 15 (.p (.bool false)), s, 23, none⟩) (fun s r => ret1 4 (.bool false) s r) (fun i s => ∃ b s', rounds P l ((Term.pres (t.args.drop i)).map argT) s = some (b, s'))
      (fun i a s ha hi hs => by
        obtain ⟨b2, s2, hs⟩ := hs
        have hm := List.mem_of_getElem? ha
        have hac := Term.counts_mem hm
        have hlt : ((i : Int) < t.args.length) = True := by simpa using hi
        have hd : t.args.drop i = a :: t.args.drop (i + 1) := by rw [List.drop_eq_getElem_cons hi]; rw [List.getElem?_eq_getElem hi] at ha; cases ha; rfl
        rw [hd] at hs
        simp only [Term.pres, List.map_append, rounds_append] at hs
        cases hx : rounds P l (a.pre.map argT) s with
        | none => rw [hx] at hs; cases hs
        | some x =>
          obtain ⟨c, s1⟩ := x
          rw [hx] at hs
          have hv := ih a hm (by omega) s s1 c hx
          have hl1 := rounds_len _ _ _ _ hx
          have gc2 : ∀ vs, gc s.length vs s1 = s1 := fun vs => gc_same' (by omega)
          cases c with
          | true =>
            refine ⟨fun s' he => ?_, ?_⟩
            · simp only [visF, hx] at he
              cases he
              exact ⟨_, _, hs⟩
            · simp only [B0_pattern_visit, visF, hx]
              simp (disch := omega) only [eqs, eqL, ↓gc_len, seval, -List.reduceReplicate, reduceCtorEq, omap, depth, pcall, pureR, freezeFor, freezeAll, tupR, resV, purR, enterTm, number, gcOk, rangeEnd, mkTup, allP, hlt, v_iadr (map_get (f := Term.row) ha) a.row_len, q_pattern_visit, hv, gc2]
          | false =>
            refine ⟨fun s' he => ?_, ?_⟩
            · simp only [visF, hx] at he
              cases he
            · simp only [B0_pattern_visit, visF, hx]
              simp (disch := omega) only [eqs, eqL, ↓gc_len, seval, -List.reduceReplicate, reduceCtorEq, omap, depth, pcall, pureR, freezeFor, freezeAll, tupR, resV, purR, enterTm, number, gcOk, rangeEnd, mkTup, allP, hlt, v_iadr (map_get (f := Term.row) ha) a.row_len, q_pattern_visit, hv, gc2, ret1]) (fun s hs => by
        simp only [B0_pattern_visit]
        simp (disch := omega) only [eqs, eqL, ↓gc_len, seval, -List.reduceReplicate, reduceCtorEq, omap, depth, pcall, pureR, freezeFor, freezeAll, tupR, resV, purR, enterTm, number, gcOk, rangeEnd, mkTup, allP, Int.lt_irrefl]) (fun i s => rfl) σ1 ⟨b, σ', h3⟩
    rw [fold_vis l t.args 0 σ1 b σ' h3] at h
    have hl3 := rounds_len _ _ _ _ h3
    have gc3 : ∀ vs, gc σ.length vs σ' = σ' := fun vs => gc_same' (by omega)
    cases b with
    | true =>
      have h' : loopAt P L0_pattern_visit (e_vis l t 0) σ1 23 none = _ := h
      (rw [call_go (Nat.le_of_ble_eq_true rfl), F_pattern_visit]; simp (disch := omega) only [eqs, eqL, ↓gc_len, seval, -List.reduceReplicate, reduceCtorEq, omap, depth, pcall, pureR, freezeFor, freezeAll, tupR, resV, purR, enterTm, number, gcOk, rangeEnd, mkTup, allP, h1, List.length_map, k0_pattern_visit, h', gc3])
    | false =>
      obtain ⟨⟨e, τ', σ2, nt', rd'⟩, g1, g2, g3, g4⟩ := h
      simp only at g2 g3 g4
      subst g2; subst g4
      have h' : loopAt P L0_pattern_visit (e_vis l t 0) σ1 23 none = some (.ret, ⟨τ', σ2, nt', rd'⟩) := g1
      (rw [call_go (Nat.le_of_ble_eq_true rfl), F_pattern_visit]; simp (disch := omega) only [eqs, eqL, ↓gc_len, seval, -List.reduceReplicate, reduceCtorEq, omap, depth, pcall, pureR, freezeFor, freezeAll, tupR, resV, purR, enterTm, number, gcOk, rangeEnd, mkTup, allP, h1, List.length_map, k0_pattern_visit, h', g3, gc3])
theorem c_preorder (l : Nat) (t : Term) (hc : t.count ≤ 1000000) (σ σ' : Store) (b : Bool) (h : rounds P l (t.pre.map argT) σ = some (b, σ')) :
    call P F_pattern_preorder_1 [.yield l, .p (.ptr t.row 0)] σ = some (.p (.tup []), σ') := by
  have hv := c_visit l t hc σ σ' b h
  have hl := rounds_len _ _ _ _ h
  have gc3 : ∀ vs, gc σ.length vs σ' = σ' := fun vs => gc_same' (by omega)
  (rw [call_go (Nat.le_of_ble_eq_true rfl), F_pattern_preorder_1]; simp (disch := omega) only [eqs, eqL, ↓gc_len, seval, -List.reduceReplicate, reduceCtorEq, omap, depth, pcall, pureR, freezeFor, freezeAll, tupR, resV, purR, enterTm, number, gcOk, rangeEnd, mkTup, allP, q_pattern_visit, hv, gc3])
theorem s_pattern_preorder (t : Term) : R P f_pattern_preorder [.agg t.row] = some (.fn f_pattern_preorder_1 [.ptr t.row 0]) := by
  (rw [r_pattern_preorder (Nat.le_of_ble_eq_true rfl), F_pattern_preorder]; simp (disch := omega) only [eqs, eqL, ↓gc_len, seval, -List.reduceReplicate, reduceCtorEq, omap, depth, pcall, pureR, freezeFor, freezeAll, tupR, resV, purR, enterTm, number, gcOk, rangeEnd, mkTup, allP, mkFn])
end Go.AE.S
/- Patterns: what is generic, what occurs. -/
namespace Go.AE.S
open Go Go.AE
set_option linter.unusedSimpArgs false
set_option linter.unusedVariables false
variable {τ : Tm} {σ : Store} {rd : Option Nat}

theorem fold_anyG {α : Type} (q : α → Bool) : ∀ (as : List α) (i : Nat), foldE (S := Unit) (T := Unit) (fun _ _ a => if q a = true then .inr () else .inl ()) i () as = if as.any q = true then .inr () else .inl ()
  | [], i => rfl
  | a :: as, i => by
    cases h : q a <;> simp [foldE, h, fold_anyG q as]
theorem s_pattern_variable (o : Int) : R P f_pattern_variable [.int .i64 o] = some (.bool (decide (o = 24 ∨ o = 25))) := by
  (rw [r_pattern_variable (Nat.le_of_ble_eq_true rfl), F_pattern_variable]; simp (disch := omega) only [eqs, eqL, ↓gc_len, seval, -List.reduceReplicate, reduceCtorEq, omap, depth, pcall, pureR, freezeFor, freezeAll, tupR, resV, purR, enterTm, number, gcOk, rangeEnd, mkTup, allP])
  by_cases h1 : o = 24 <;> by_cases h2 : o = 25 <;> simp (disch := omega) only [eqs, eqL, ↓gc_len, seval, -List.reduceReplicate, reduceCtorEq, omap, depth, pcall, pureR, freezeFor, freezeAll, tupR, resV, purR, enterTm, number, gcOk, rangeEnd, mkTup, allP, eq_true h1, eq_true h2, h1, h2] <;> first | rfl | simp_all
theorem s_r24_variable (t : Term) : R P f_r24_variable [.agg t.row] = some (.bool (decide (t.op = 24 ∨ t.op = 25))) := by
  (rw [r_r24_variable (Nat.le_of_ble_eq_true rfl), F_r24_variable]; simp (disch := omega) only [eqs, eqL, ↓gc_len, seval, -List.reduceReplicate, reduceCtorEq, omap, depth, pcall, pureR, freezeFor, freezeAll, tupR, resV, purR, enterTm, number, gcOk, rangeEnd, mkTup, allP])
  by_cases h1 : t.op = 24 <;> by_cases h2 : t.op = 25 <;> simp (disch := omega) only [eqs, eqL, ↓gc_len, seval, -List.reduceReplicate, reduceCtorEq, omap, depth, pcall, pureR, freezeFor, freezeAll, tupR, resV, purR, enterTm, number, gcOk, rangeEnd, mkTup, allP, eq_true h1, eq_true h2, h1, h2] <;> first | rfl | simp_all
theorem s_r04_Pattern (o : Int) : R P f_r04_Pattern [.int .i64 o] = some (.bool (decide (o ∈ [24, 25, 26]))) := by
  have h := s_r04_Is o [24, 25, 26] (by decide)
  simp only [List.map_cons, List.map_nil, irow] at h
  (rw [r_r04_Pattern (Nat.le_of_ble_eq_true rfl), F_r04_Pattern]; simp (disch := omega) only [eqs, eqL, ↓gc_len, seval, -List.reduceReplicate, reduceCtorEq, omap, depth, pcall, pureR, freezeFor, freezeAll, tupR, resV, purR, enterTm, number, gcOk, rangeEnd, mkTup, allP, q_r04_Is, h])
def idxE (x : Int) : Nat → List Int → Int
  | _, [] => -1
  | i, a :: r => if x = a then i else idxE x (i + 1) r
theorem idx_mem (x : Int) : ∀ (l : List Int) (i : Nat), 0 ≤ idxE x i l ↔ x ∈ l
  | [], i => by simp [idxE]
  | a :: l, i => by
    by_cases h : x = a
    · simp [idxE, h]
    · simp [idxE, h, idx_mem x l (i + 1)]
theorem fold_idx (x : Int) : ∀ (l : List Int) (i : Nat), doneP (fun _ => idxE x i l = -1) (fun k => idxE x i l = (k : Nat)) (foldE (S := Unit) (T := Nat) (fun i _ a => if x = a then .inr i else .inl ()) i () l)
  | [], i => rfl
  | a :: l, i => by
    by_cases h : x = a
    · simp only [foldE, idxE, h, if_true]; exact rfl
    · simp only [foldE, idxE, h, if_false]; exact fold_idx x l (i + 1)
abbrev e_Idx (l : List Int) (x i : Int) : List (Nat × AV) := [(0, .p (.lst (l.map irow))), (1, .p (.int .i64 x)), (7, .p (.int .i64 l.length)), (8, .p (.int .i64 i))]
theorem s_Index_Op (l : List Int) (x : Int) (hl : l.length ≤ 1000000) : R P f_slices_Index_api_Op_api_Op [.lst (l.map irow), .int .i64 x] = some (.int .i64 (idxE x 0 l)) := by
  have h := loop_foldE (P := P) (nt := 19) (rd := none) (lv := [0, 1, 7, 8]) (b := B0_slices_Index_api_Op_api_Op) (x := 0) (as := l) (fun i (_ : Unit) => e_Idx l x i) (fun _ => []) (fun i _ a => if x = a then .inr i else .inl ())
    (fun _ => ⟨upd (tm (e_Idx l x l.length)) 9 (.p (.bool false)), [], 19, none⟩) (fun (k : Nat) => ret1 4 (.int .i64 k) []) (fun _ _ => True)
    (fun i a s ha hi hs => by
      refine ⟨fun _ _ => trivial, ?_⟩
      have hlt : ((i : Int) < l.length) = True := by simpa using hi
      by_cases hc : x = a <;> simp only [B0_slices_Index_api_Op_api_Op] <;> simp (disch := omega) only [eqs, eqL, ↓gc_len, seval, -List.reduceReplicate, reduceCtorEq, omap, depth, pcall, pureR, freezeFor, freezeAll, tupR, resV, purR, enterTm, number, gcOk, rangeEnd, mkTup, allP, hlt, v_iadr (es := 1) (map_get (f := irow) ha) rfl, irow, eq_true hc, hc, ret1]) (fun s hs => by
      simp only [B0_slices_Index_api_Op_api_Op]
      simp (disch := omega) only [eqs, eqL, ↓gc_len, seval, -List.reduceReplicate, reduceCtorEq, omap, depth, pcall, pureR, freezeFor, freezeAll, tupR, resV, purR, enterTm, number, gcOk, rangeEnd, mkTup, allP, Int.lt_irrefl]) (fun i s => rfl) () trivial
  have hf := fold_idx x l 0
  cases hfe : foldE (S := Unit) (T := Nat) (fun i _ a => if x = a then .inr i else .inl ()) 0 () l with
  | inl s =>
    rw [hfe] at h hf
    have h' : loopAt P L0_slices_Index_api_Op_api_Op (e_Idx l x 0) [] 19 none = _ := h
    have hf' : idxE x 0 l = -1 := hf
    (rw [r_slices_Index_api_Op_api_Op (Nat.le_of_ble_eq_true rfl), F_slices_Index_api_Op_api_Op]; simp (disch := omega) only [eqs, eqL, ↓gc_len, seval, -List.reduceReplicate, reduceCtorEq, omap, depth, pcall, pureR, freezeFor, freezeAll, tupR, resV, purR, enterTm, number, gcOk, rangeEnd, mkTup, allP, List.length_map, k0_slices_Index_api_Op_api_Op, h'])
    rw [hf']
  | inr k =>
    rw [hfe] at h hf
    obtain ⟨⟨e, τ', σ', nt', rd'⟩, g1, g2, g3, g4⟩ := h
    simp only at g2 g3 g4
    subst g2; subst g4
    have h' : loopAt P L0_slices_Index_api_Op_api_Op (e_Idx l x 0) [] 19 none = some (.ret, ⟨τ', [], nt', rd'⟩) := g1
    have hf' : idxE x 0 l = k := hf
    (rw [r_slices_Index_api_Op_api_Op (Nat.le_of_ble_eq_true rfl), F_slices_Index_api_Op_api_Op]; simp (disch := omega) only [eqs, eqL, ↓gc_len, seval, -List.reduceReplicate, reduceCtorEq, omap, depth, pcall, pureR, freezeFor, freezeAll, tupR, resV, purR, enterTm, number, gcOk, rangeEnd, mkTup, allP, List.length_map, k0_slices_Index_api_Op_api_Op, h', g3])
    rw [hf']
theorem s_Contains_Op (l : List Int) (x : Int) (hl : l.length ≤ 1000000) : R P f_slices_Contains_api_Op_api_Op [.lst (l.map irow), .int .i64 x] = some (.bool (decide (x ∈ l))) := by
  (rw [r_slices_Contains_api_Op_api_Op (Nat.le_of_ble_eq_true rfl), F_slices_Contains_api_Op_api_Op]; simp (disch := omega) only [eqs, eqL, ↓gc_len, seval, -List.reduceReplicate, reduceCtorEq, omap, depth, pcall, pureR, freezeFor, freezeAll, tupR, resV, purR, enterTm, number, gcOk, rangeEnd, mkTup, allP, q_slices_Index_api_Op_api_Op, s_Index_Op l x hl, idx_mem])
/-- The nodes of a term as what a range over them hands out. -/
theorem range_pre {S T : Type} {kept : List (Nat × AV)} {ps : List Nat} {asg b : K} {nt : Nat} (t : Term) (hc : t.count ≤ 1000000) (hps : nodup ps = true ∧ ps.all (· < nt) = true)
    (sto : S → Store) (f : Nat → S → Term → S ⊕ T) (out : T → Ex × Store) (ok : Nat → S → Prop) (s0 : S) (hrd : aroundOk rd (sto s0) = true)
    (hlen : ∀ s, (sto s).length = (sto s0).length) (hout : ∀ t, (out t).2.length = (sto s0).length)
    (hbel : ∀ s, (sto s).all (Obj.below (sto s0).length) = true) (hbelo : ∀ t, (out t).2.all (Obj.below (sto s0).length) = true) (hnn : ∀ t, (out t).1 ≠ .normal)
    (hstep : ∀ (i : Nat) (a : Term) (s : S), t.pre[i]? = some a → ok i s → (∀ s', f i s a = .inl s' → ok (i + 1) s') ∧
      round P (sto s0).length [.p (.agg a.row)] (sto s ++ [.loop kept nt ps asg b none]) = (match f i s a with
        | .inl s' => some (.p (.bool true), sto s' ++ [.loop kept nt ps asg b none])
        | .inr t => some (.p (.bool false), (out t).2 ++ [.loop kept nt ps asg b (some (out t).1)])))
    (h0 : ok 0 s0) : rangeR P ps asg b (.p (.fn f_pattern_preorder_1 [.ptr t.row 0])) kept (sto s0) nt rd = some (rangeEnd sto out (foldE f 0 s0 t.pre)) :=
  range_fold (f0 := f_pattern_preorder_1) (cap := [.p (.ptr t.row 0)]) rfl p_pattern_preorder_1 hps argT sto f out ok t.pre s0 hrd (fun σ σ' bb h => ⟨_, c_preorder _ t hc σ σ' bb h⟩) hlen hout hbel hbelo hnn hstep h0
theorem s_pattern_Generic (t : Term) (hc : t.count ≤ 1000000) : R P f_pattern_Generic [.agg t.row] = some (.bool (t.pre.any fun u => decide (u.w = 0))) := by
  have h := range_pre (rd := none) (kept := [(2, .ptr 0 1 0 0)]) (ps := [6]) (asg := A0_pattern_Generic) (b := B0_pattern_Generic) (nt := 10) t hc ⟨rfl, rfl⟩ (fun (_ : Unit) => [.pv 1 [[.bool false]] false]) (fun _ _ a => if decide (a.w = 0) = true then .inr () else .inl ()) (fun (_ : Unit) => (.ret, [.pv 1 [[.bool true]] false]))
    (fun _ _ => True) () rfl (fun _ => rfl) (fun _ => rfl) (fun _ => rfl) (fun _ => rfl) (fun _ => by simp) (fun i a s ha _ => by
      refine ⟨fun _ _ => trivial, ?_⟩
      simp only [List.cons_append, List.nil_append]
      rw [round_go rfl ⟨rfl, rfl, rfl⟩]
      by_cases hw : a.w = 0
      · simp only [A0_pattern_Generic, B0_pattern_Generic]
        simp (disch := omega) only [eqs, eqL, ↓gc_len, seval, -List.reduceReplicate, reduceCtorEq, omap, depth, pcall, pureR, freezeFor, freezeAll, tupR, resV, purR, enterTm, number, gcOk, rangeEnd, mkTup, allP, eq_true hw]
      · simp only [A0_pattern_Generic, B0_pattern_Generic]
        simp (disch := omega) only [eqs, eqL, ↓gc_len, seval, -List.reduceReplicate, reduceCtorEq, omap, depth, pcall, pureR, freezeFor, freezeAll, tupR, resV, purR, enterTm, number, gcOk, rangeEnd, mkTup, allP, hw]) trivial
  rw [fold_anyG] at h
  cases hq : t.pre.any fun u => decide (u.w = 0) <;> rw [hq] at h <;> (rw [r_pattern_Generic (Nat.le_of_ble_eq_true rfl), F_pattern_Generic]; simp (disch := omega) only [eqs, eqL, ↓gc_len, seval, -List.reduceReplicate, reduceCtorEq, omap, depth, pcall, pureR, freezeFor, freezeAll, tupR, resV, purR, enterTm, number, gcOk, rangeEnd, mkTup, allP, kR0_pattern_Generic, q_pattern_preorder, s_pattern_preorder, h])
theorem s_pattern_has (t : Term) (l : List Int) (hc : t.count ≤ 1000000) (hl : l.length ≤ 1000000) : R P f_pattern_has [.agg t.row, .lst (l.map irow)] = some (.bool (t.pre.any fun u => decide (u.op ∈ l))) := by
  have h := range_pre (rd := none) (kept := [(3, .p (.ptr [.lst (l.map irow)] 0)), (4, .ptr 0 1 0 0)]) (ps := [8]) (asg := A0_pattern_has) (b := B0_pattern_has) (nt := 13) t hc ⟨rfl, rfl⟩ (fun (_ : Unit) => [.pv 1 [[.bool false]] false]) (fun _ _ a => if decide (a.op ∈ l) = true then .inr () else .inl ()) (fun (_ : Unit) => (.ret, [.pv 1 [[.bool true]] false]))
    (fun _ _ => True) () rfl (fun _ => rfl) (fun _ => rfl) (fun _ => rfl) (fun _ => rfl) (fun _ => by simp) (fun i a s ha _ => by
      refine ⟨fun _ _ => trivial, ?_⟩
      simp only [List.cons_append, List.nil_append]
      rw [round_go rfl ⟨rfl, rfl, rfl⟩]
      have hcn := s_Contains_Op l a.op hl
      by_cases hw : a.op ∈ l
      · simp only [A0_pattern_has, B0_pattern_has]
        simp (disch := omega) only [eqs, eqL, ↓gc_len, seval, -List.reduceReplicate, reduceCtorEq, omap, depth, pcall, pureR, freezeFor, freezeAll, tupR, resV, purR, enterTm, number, gcOk, rangeEnd, mkTup, allP, eq_true hw, q_slices_Contains_api_Op_api_Op, hcn]
      · simp only [A0_pattern_has, B0_pattern_has]
        simp (disch := omega) only [eqs, eqL, ↓gc_len, seval, -List.reduceReplicate, reduceCtorEq, omap, depth, pcall, pureR, freezeFor, freezeAll, tupR, resV, purR, enterTm, number, gcOk, rangeEnd, mkTup, allP, hw, q_slices_Contains_api_Op_api_Op, hcn]) trivial
  rw [fold_anyG] at h
  cases hq : t.pre.any fun u => decide (u.op ∈ l) <;> rw [hq] at h <;> (rw [r_pattern_has (Nat.le_of_ble_eq_true rfl), F_pattern_has]; simp (disch := omega) only [eqs, eqL, ↓gc_len, seval, -List.reduceReplicate, reduceCtorEq, omap, depth, pcall, pureR, freezeFor, freezeAll, tupR, resV, purR, enterTm, number, gcOk, rangeEnd, mkTup, allP, kR0_pattern_has, q_pattern_preorder, s_pattern_preorder, h])
theorem s_pattern_Ground (t : Term) (hc : t.count ≤ 1000000) : R P f_pattern_Ground [.agg t.row] = some (.bool !(t.pre.any fun u => decide (u.op ∈ [24, 25, 26]))) := by
  have h := s_pattern_has t [24, 25, 26] hc (by decide)
  simp only [List.map_cons, List.map_nil, irow] at h
  (rw [r_pattern_Ground (Nat.le_of_ble_eq_true rfl), F_pattern_Ground]; simp (disch := omega) only [eqs, eqL, ↓gc_len, seval, -List.reduceReplicate, reduceCtorEq, omap, depth, pcall, pureR, freezeFor, freezeAll, tupR, resV, purR, enterTm, number, gcOk, rangeEnd, mkTup, allP, q_pattern_has, h])
abbrev e_anyR (l : List Term) (i : Int) : List (Nat × AV) := [(3, .p (.lst (l.map Term.row))), (4, .p (.int .i64 i))]
theorem s_r24_Generic (t : Term) (hc : t.count ≤ 1000000) : R P f_r24_Generic [.agg t.row] = some (.bool (t.pre.any fun u => decide (u.w = 0))) := by
  have hpl := Term.pre_len t
  have h := loop_foldE (P := P) (nt := 19) (rd := none) (lv := [3, 4]) (b := B0_r24_Generic) (x := 0) (as := t.pre) (fun i (_ : Unit) => e_anyR t.pre i) (fun _ => []) (fun i _ a => if decide (a.w = 0) = true then .inr () else .inl ())
    (fun _ => ⟨upd (upd (upd (upd (tm (e_anyR t.pre t.pre.length)) 7 (.p (.int .i64 t.pre.length))) 8 (.p (.lst (t.pre.map Term.row)))) 9 (.p (.int .i64 t.pre.length))) 10 (.p (.bool false)), [], 19, none⟩) (fun _ => ret1 2 (.bool true) []) (fun _ _ => True)
    (fun i a s ha hi hs => by
      refine ⟨fun _ _ => trivial, ?_⟩
      have hlt : ((i : Int) < t.pre.length) = True := by simpa using hi
      by_cases hw : a.w = 0 <;> simp only [B0_r24_Generic] <;> simp (disch := omega) only [eqs, eqL, ↓gc_len, seval, -List.reduceReplicate, reduceCtorEq, omap, depth, pcall, pureR, freezeFor, freezeAll, tupR, resV, purR, enterTm, number, gcOk, rangeEnd, mkTup, allP, hlt, List.length_map, v_iadr (map_get (f := Term.row) ha) a.row_len, eq_true hw, hw, ret1]) (fun s hs => by
      simp only [B0_r24_Generic]
      simp (disch := omega) only [eqs, eqL, ↓gc_len, seval, -List.reduceReplicate, reduceCtorEq, omap, depth, pcall, pureR, freezeFor, freezeAll, tupR, resV, purR, enterTm, number, gcOk, rangeEnd, mkTup, allP, Int.lt_irrefl, List.length_map]) (fun i s => rfl) () trivial
  rw [fold_anyG] at h
  have h2 := done_fi h
  have hp := s_r24_Preorder t hc
  by_cases hq : (t.pre.any fun u => decide (u.w = 0)) = true
  · rw [if_pos hq] at h2
    obtain ⟨⟨e, τ', σ', nt', rd'⟩, g1, g2, g3, g4⟩ := h2
    simp only at g2 g3 g4
    subst g2; subst g4
    have h' : loopAt P L0_r24_Generic (e_anyR t.pre 0) [] 19 none = some (.ret, ⟨τ', [], nt', rd'⟩) := g1
    (rw [r_r24_Generic (Nat.le_of_ble_eq_true rfl), F_r24_Generic]; simp (disch := omega) only [eqs, eqL, ↓gc_len, seval, -List.reduceReplicate, reduceCtorEq, omap, depth, pcall, pureR, freezeFor, freezeAll, tupR, resV, purR, enterTm, number, gcOk, rangeEnd, mkTup, allP, q_r24_Preorder, hp, k0_r24_Generic, h', g3])
    rw [hq]
  · rw [if_neg hq] at h2
    have h' : loopAt P L0_r24_Generic (e_anyR t.pre 0) [] 19 none = _ := h2
    (rw [r_r24_Generic (Nat.le_of_ble_eq_true rfl), F_r24_Generic]; simp (disch := omega) only [eqs, eqL, ↓gc_len, seval, -List.reduceReplicate, reduceCtorEq, omap, depth, pcall, pureR, freezeFor, freezeAll, tupR, resV, purR, enterTm, number, gcOk, rangeEnd, mkTup, allP, q_r24_Preorder, hp, k0_r24_Generic, h'])
    rw [Bool.eq_false_iff.2 hq]
theorem s_r24_Ground (t : Term) (hc : t.count ≤ 1000000) : R P f_r24_Ground [.agg t.row] = some (.bool !(t.pre.any fun u => decide (u.op ∈ [24, 25, 26]))) := by
  have hpl := Term.pre_len t
  have h := loop_foldE (P := P) (nt := 19) (rd := none) (lv := [3, 4]) (b := B0_r24_Ground) (x := 0) (as := t.pre) (fun i (_ : Unit) => e_anyR t.pre i) (fun _ => []) (fun i _ a => if decide (a.op ∈ [24, 25, 26]) = true then .inr () else .inl ())
    (fun _ => ⟨upd (upd (upd (upd (tm (e_anyR t.pre t.pre.length)) 7 (.p (.int .i64 t.pre.length))) 8 (.p (.lst (t.pre.map Term.row)))) 9 (.p (.int .i64 t.pre.length))) 10 (.p (.bool false)), [], 19, none⟩) (fun _ => ret1 2 (.bool false) []) (fun _ _ => True)
    (fun i a s ha hi hs => by
      refine ⟨fun _ _ => trivial, ?_⟩
      have hlt : ((i : Int) < t.pre.length) = True := by simpa using hi
      have hp := s_r04_Pattern a.op
      cases hw : decide (a.op ∈ [24, 25, 26]) <;> rw [hw] at hp <;> simp only [B0_r24_Ground] <;> simp (disch := omega) only [eqs, eqL, ↓gc_len, seval, -List.reduceReplicate, reduceCtorEq, omap, depth, pcall, pureR, freezeFor, freezeAll, tupR, resV, purR, enterTm, number, gcOk, rangeEnd, mkTup, allP, hlt, List.length_map, v_iadr (map_get (f := Term.row) ha) a.row_len, q_r04_Pattern, hp, ret1]) (fun s hs => by
      simp only [B0_r24_Ground]
      simp (disch := omega) only [eqs, eqL, ↓gc_len, seval, -List.reduceReplicate, reduceCtorEq, omap, depth, pcall, pureR, freezeFor, freezeAll, tupR, resV, purR, enterTm, number, gcOk, rangeEnd, mkTup, allP, Int.lt_irrefl, List.length_map]) (fun i s => rfl) () trivial
  rw [fold_anyG] at h
  have h2 := done_fi h
  have hp := s_r24_Preorder t hc
  by_cases hq : (t.pre.any fun u => decide (u.op ∈ [24, 25, 26])) = true
  · rw [if_pos hq] at h2
    obtain ⟨⟨e, τ', σ', nt', rd'⟩, g1, g2, g3, g4⟩ := h2
    simp only at g2 g3 g4
    subst g2; subst g4
    have h' : loopAt P L0_r24_Ground (e_anyR t.pre 0) [] 19 none = some (.ret, ⟨τ', [], nt', rd'⟩) := g1
    (rw [r_r24_Ground (Nat.le_of_ble_eq_true rfl), F_r24_Ground]; simp (disch := omega) only [eqs, eqL, ↓gc_len, seval, -List.reduceReplicate, reduceCtorEq, omap, depth, pcall, pureR, freezeFor, freezeAll, tupR, resV, purR, enterTm, number, gcOk, rangeEnd, mkTup, allP, q_r24_Preorder, hp, k0_r24_Ground, h', g3])
    rw [hq]; rfl
  · rw [if_neg hq] at h2
    have h' : loopAt P L0_r24_Ground (e_anyR t.pre 0) [] 19 none = _ := h2
    (rw [r_r24_Ground (Nat.le_of_ble_eq_true rfl), F_r24_Ground]; simp (disch := omega) only [eqs, eqL, ↓gc_len, seval, -List.reduceReplicate, reduceCtorEq, omap, depth, pcall, pureR, freezeFor, freezeAll, tupR, resV, purR, enterTm, number, gcOk, rangeEnd, mkTup, allP, q_r24_Preorder, hp, k0_r24_Ground, h'])
    rw [Bool.eq_false_iff.2 hq]; rfl
end Go.AE.S
/- The error of a node of a pattern, by the program and by the reference. -/
namespace Go.AE
namespace Term
theorem post_any (q : Term → Bool) (t : Term) : t.post.any q = t.pre.any q := by
  induction t using ind with
  | h t ih =>
  have key : ∀ l : List Term, (∀ a ∈ l, a.post.any q = a.pre.any q) → (posts l).any q = (pres l).any q := by
    intro l
    induction l with
    | nil => intro _; rfl
    | cons a l ihl => intro h; rw [posts, pres, List.any_append, List.any_append, h a (by simp), ihl fun b hb => h b (by simp [hb])]
  rw [post_eq, pre_eq, List.any_append, key _ ih, List.any_cons]
  simp [Bool.or_comm]
end Term
namespace S
open Go Go.AE
set_option linter.unusedSimpArgs false
set_option linter.unusedVariables false
variable {τ : Tm} {σ : Store} {rd : Option Nat}

def inner (p : Term) : Bool := match p.args with
  | a :: _ => a.pre.any fun u => decide (u.op ∈ [24, 26])
  | [] => false
def nodeE (p : Term) (ev : Bool) : Int :=
  if arity p.op < 0 ∨ p.op = 1 ∨ (p.op = 26 ∧ ev = false) ∨ ¬ (p.args.length : Int) = arity p.op then 4
  else if (¬ p.name = bs [] ∧ ¬ (p.op = 24 ∨ p.op = 25)) ∨ (¬ p.v = 0 ∧ ¬ p.op = 2 ∧ ¬ p.op = 21) then 4
  else if (p.op = 24 ∨ p.op = 25) ∧ nameOk p.name = false then 5
  else if ¬ (widthW p.op p.w p.v (p.args.map Term.w)).2 = 0 ∨ ¬ (widthW p.op p.w p.v (p.args.map Term.w)).1 = p.w then 3
  else if p.op = 26 ∧ inner p = true then 12 else 0
theorem ar26 : arity 26 = 1 := by decide
theorem ar24 : arity 24 = 0 := by decide
theorem ar25 : arity 25 = 0 := by decide
theorem ar2 : arity 2 = 0 := by decide
theorem ar21 : arity 21 = 1 := by decide
set_option maxHeartbeats 4000000 in
theorem s_pattern_node (p : Term) (ev : Bool) (ht : TOk p) (hc : p.count ≤ 1000000) : R P f_pattern_node [.agg p.row, .bool ev] = some (.int .i64 (nodeE p ev)) := by
  have hlc := Term.counts_len p.args
  have hcc := Term.count_eq p
  by_cases h1 : arity p.op < 0
  · (rw [r_pattern_node (Nat.le_of_ble_eq_true rfl), F_pattern_node]; simp (disch := omega) only [eqs, eqL, ↓gc_len, seval, -List.reduceReplicate, reduceCtorEq, omap, depth, pcall, pureR, freezeFor, freezeAll, tupR, resV, purR, enterTm, number, gcOk, rangeEnd, mkTup, allP, q_opinfo_Arity, s_opinfo_Arity, h1])
    simp [nodeE, h1]
  by_cases h2 : p.op = 1
  · (rw [r_pattern_node (Nat.le_of_ble_eq_true rfl), F_pattern_node]; simp (disch := omega) only [eqs, eqL, ↓gc_len, seval, -List.reduceReplicate, reduceCtorEq, omap, depth, pcall, pureR, freezeFor, freezeAll, tupR, resV, purR, enterTm, number, gcOk, rangeEnd, mkTup, allP, q_opinfo_Arity, s_opinfo_Arity, h1, eq_true h2])
    simp [nodeE, h2]
  by_cases h26 : p.op = 26 ∧ ev = false
  · obtain ⟨h3, rfl⟩ := h26
    (rw [r_pattern_node (Nat.le_of_ble_eq_true rfl), F_pattern_node]; simp (disch := omega) only [eqs, eqL, ↓gc_len, seval, -List.reduceReplicate, reduceCtorEq, omap, depth, pcall, pureR, freezeFor, freezeAll, tupR, resV, purR, enterTm, number, gcOk, rangeEnd, mkTup, allP, q_opinfo_Arity, s_opinfo_Arity, h1, h2, eq_true h3])
    simp [nodeE, h3]
  by_cases h5 : (p.args.length : Int) = arity p.op
  rotate_left
  · have h5' := eq_false h5
    by_cases h3 : p.op = 26
    · have he : ev = true := by cases ev; exact absurd ⟨h3, rfl⟩ h26; rfl
      subst he
      (rw [r_pattern_node (Nat.le_of_ble_eq_true rfl), F_pattern_node]; simp (disch := omega) only [eqs, eqL, ↓gc_len, seval, -List.reduceReplicate, reduceCtorEq, omap, depth, pcall, pureR, freezeFor, freezeAll, tupR, resV, purR, enterTm, number, gcOk, rangeEnd, mkTup, allP, q_opinfo_Arity, s_opinfo_Arity, h1, h2, eq_true h3, List.length_map, h5'])
      simp [nodeE, h5]
    · (rw [r_pattern_node (Nat.le_of_ble_eq_true rfl), F_pattern_node]; simp (disch := omega) only [eqs, eqL, ↓gc_len, seval, -List.reduceReplicate, reduceCtorEq, omap, depth, pcall, pureR, freezeFor, freezeAll, tupR, resV, purR, enterTm, number, gcOk, rangeEnd, mkTup, allP, q_opinfo_Arity, s_opinfo_Arity, h1, h2, h3, List.length_map, h5'])
      simp [nodeE, h5]
  have h5' := eq_true h5
  have hwd := s_pattern_widths p.args (by omega)
  have hW := s_opinfo_Width p.op p.w p.v (p.args.map Term.w) (by rw [List.length_map]; have := arity_some (o := p.op) (by rcases Decidable.em (1 ≤ p.op ∧ p.op ≤ 26) with h | h; exact h; exact absurd (by rw [arity_none h]; decide) h1); omega) ht.v
  have spec : ∀ x : Int, (if (¬ p.name = bs [] ∧ ¬ (p.op = 24 ∨ p.op = 25)) ∨ (¬ p.v = 0 ∧ ¬ p.op = 2 ∧ ¬ p.op = 21) then 4
      else if (p.op = 24 ∨ p.op = 25) ∧ nameOk p.name = false then 5
      else if ¬ (widthW p.op p.w p.v (p.args.map Term.w)).2 = 0 ∨ ¬ (widthW p.op p.w p.v (p.args.map Term.w)).1 = p.w then 3
      else if p.op = 26 ∧ inner p = true then 12 else 0) = x → nodeE p ev = x := by
    intro x hx
    rw [← hx, nodeE, if_neg]
    rintro (h | h | h | h)
    · exact h1 h
    · exact h2 h
    · exact h26 h
    · exact h h5
  generalize hr : widthW p.op p.w p.v (p.args.map Term.w) = r at hW spec
  obtain ⟨rw, re⟩ := r
  simp only [two] at hW
  by_cases h3 : p.op = 26
  · have he : ev = true := by cases ev; exact absurd ⟨h3, rfl⟩ h26; rfl
    subst he
    have n24 : ¬ (p.op = 24 ∨ p.op = 25) := by omega
    have n2 : ¬ p.op = 2 := by omega
    have n21 : ¬ p.op = 21 := by omega
    by_cases h6 : p.name = bs []
    rotate_left
    · rw [spec 4 (by simp [h6, n24])]
      (rw [r_pattern_node (Nat.le_of_ble_eq_true rfl), F_pattern_node]; simp (disch := omega) only [eqs, eqL, ↓gc_len, seval, -List.reduceReplicate, reduceCtorEq, omap, depth, pcall, pureR, freezeFor, freezeAll, tupR, resV, purR, enterTm, number, gcOk, rangeEnd, mkTup, allP, q_opinfo_Arity, s_opinfo_Arity, h1, h2, eq_true h3, List.length_map, h5', h6, q_pattern_variable, s_pattern_variable, n24])
    by_cases h8 : p.v = 0
    rotate_left
    · rw [spec 4 (by simp [h8, n2, n21])]
      (rw [r_pattern_node (Nat.le_of_ble_eq_true rfl), F_pattern_node]; simp (disch := omega) only [eqs, eqL, ↓gc_len, seval, -List.reduceReplicate, reduceCtorEq, omap, depth, pcall, pureR, freezeFor, freezeAll, tupR, resV, purR, enterTm, number, gcOk, rangeEnd, mkTup, allP, q_opinfo_Arity, s_opinfo_Arity, h1, h2, eq_true h3, List.length_map, h5', eq_true h6, q_pattern_variable, s_pattern_variable, n24, h8, n2, n21])
    by_cases g1 : re = 0
    rotate_left
    · rw [spec 3 (by simp [h6, h8, n24, g1])]
      (rw [r_pattern_node (Nat.le_of_ble_eq_true rfl), F_pattern_node]; simp (disch := omega) only [eqs, eqL, ↓gc_len, seval, -List.reduceReplicate, reduceCtorEq, omap, depth, pcall, pureR, freezeFor, freezeAll, tupR, resV, purR, enterTm, number, gcOk, rangeEnd, mkTup, allP, q_opinfo_Arity, s_opinfo_Arity, h1, h2, eq_true h3, List.length_map, h5', eq_true h6, q_pattern_variable, s_pattern_variable, n24, eq_true h8, n2, n21, q_pattern_widths, hwd, q_opinfo_Width, hW, g1])
    by_cases g2 : rw = p.w
    rotate_left
    · rw [spec 3 (by simp [h6, h8, n24, g2])]
      (rw [r_pattern_node (Nat.le_of_ble_eq_true rfl), F_pattern_node]; simp (disch := omega) only [eqs, eqL, ↓gc_len, seval, -List.reduceReplicate, reduceCtorEq, omap, depth, pcall, pureR, freezeFor, freezeAll, tupR, resV, purR, enterTm, number, gcOk, rangeEnd, mkTup, allP, q_opinfo_Arity, s_opinfo_Arity, h1, h2, eq_true h3, List.length_map, h5', eq_true h6, q_pattern_variable, s_pattern_variable, n24, eq_true h8, n2, n21, q_pattern_widths, hwd, q_opinfo_Width, hW, eq_true g1, g2])
    rw [h3, ar26] at h5
    obtain ⟨a, hal⟩ : ∃ a, p.args = [a] := by
      match hp : p.args with
      | [a] => exact ⟨a, rfl⟩
      | [] => rw [hp] at h5; simp at h5
      | a :: b :: l => rw [hp] at h5; simp at h5; omega
    have ha0 : p.args[0]? = some a := by rw [hal]; rfl
    have hac : a.count ≤ 1000000 := by have := Term.counts_mem (l := p.args) (a := a) (by rw [hal]; simp); omega
    have hh := s_pattern_has a [24, 26] hac (by decide)
    simp only [List.map_cons, List.map_nil, irow] at hh
    have i0 := v_ia0 (k := .i64) (σ := []) (es := 5) (map_get (f := Term.row) ha0) a.row_len
    have hin : inner p = a.pre.any fun u => decide (u.op ∈ [24, 26]) := by unfold inner; rw [hal]
    rw [spec (if inner p = true then 12 else 0) (by simp [h3, h6, h8, g1, g2])]
    rw [hin]
    cases hb : a.pre.any fun u => decide (u.op ∈ [24, 26]) <;> rw [hb] at hh <;> (rw [r_pattern_node (Nat.le_of_ble_eq_true rfl), F_pattern_node]; simp (disch := omega) only [eqs, eqL, ↓gc_len, seval, -List.reduceReplicate, reduceCtorEq, omap, depth, pcall, pureR, freezeFor, freezeAll, tupR, resV, purR, enterTm, number, gcOk, rangeEnd, mkTup, allP, q_opinfo_Arity, s_opinfo_Arity, h1, h2, eq_true h3, List.length_map, h5', eq_true h6, q_pattern_variable, s_pattern_variable, n24, eq_true h8, n2, n21, q_pattern_widths, hwd, q_opinfo_Width, hW, eq_true g1, eq_true g2, i0, q_pattern_has, hh])
  · by_cases n24 : p.op = 24 ∨ p.op = 25
    · have n2 : ¬ p.op = 2 := by omega
      have n21 : ¬ p.op = 21 := by omega
      by_cases h8 : p.v = 0
      rotate_left
      · rw [spec 4 (by simp [h8, n2, n21])]
        rcases Classical.propComplete (p.name = bs []) with h6 | h6 <;> (rw [r_pattern_node (Nat.le_of_ble_eq_true rfl), F_pattern_node]; simp (disch := omega) only [eqs, eqL, ↓gc_len, seval, -List.reduceReplicate, reduceCtorEq, omap, depth, pcall, pureR, freezeFor, freezeAll, tupR, resV, purR, enterTm, number, gcOk, rangeEnd, mkTup, allP, q_opinfo_Arity, s_opinfo_Arity, h1, h2, h3, List.length_map, h5', h6, q_pattern_variable, s_pattern_variable, n24, h8, n2, n21])
      cases h11 : nameOk p.name with
      | false =>
        rw [spec 5 (by simp [h8, n24, h11])]
        rcases Classical.propComplete (p.name = bs []) with h6 | h6 <;> (rw [r_pattern_node (Nat.le_of_ble_eq_true rfl), F_pattern_node]; simp (disch := omega) only [eqs, eqL, ↓gc_len, seval, -List.reduceReplicate, reduceCtorEq, omap, depth, pcall, pureR, freezeFor, freezeAll, tupR, resV, purR, enterTm, number, gcOk, rangeEnd, mkTup, allP, q_opinfo_Arity, s_opinfo_Arity, h1, h2, h3, List.length_map, h5', h6, q_pattern_variable, s_pattern_variable, n24, eq_true h8, n2, n21, q_term_Name, s_term_Name, h11])
      | true =>
        by_cases g1 : re = 0
        rotate_left
        · rw [spec 3 (by simp [h8, n24, h11, g1])]
          rcases Classical.propComplete (p.name = bs []) with h6 | h6 <;> (rw [r_pattern_node (Nat.le_of_ble_eq_true rfl), F_pattern_node]; simp (disch := omega) only [eqs, eqL, ↓gc_len, seval, -List.reduceReplicate, reduceCtorEq, omap, depth, pcall, pureR, freezeFor, freezeAll, tupR, resV, purR, enterTm, number, gcOk, rangeEnd, mkTup, allP, q_opinfo_Arity, s_opinfo_Arity, h1, h2, h3, List.length_map, h5', h6, q_pattern_variable, s_pattern_variable, n24, eq_true h8, n2, n21, q_term_Name, s_term_Name, h11, q_pattern_widths, hwd, q_opinfo_Width, hW, g1])
        by_cases g2 : rw = p.w
        rotate_left
        · rw [spec 3 (by simp [h8, n24, h11, g2])]
          rcases Classical.propComplete (p.name = bs []) with h6 | h6 <;> (rw [r_pattern_node (Nat.le_of_ble_eq_true rfl), F_pattern_node]; simp (disch := omega) only [eqs, eqL, ↓gc_len, seval, -List.reduceReplicate, reduceCtorEq, omap, depth, pcall, pureR, freezeFor, freezeAll, tupR, resV, purR, enterTm, number, gcOk, rangeEnd, mkTup, allP, q_opinfo_Arity, s_opinfo_Arity, h1, h2, h3, List.length_map, h5', h6, q_pattern_variable, s_pattern_variable, n24, eq_true h8, n2, n21, q_term_Name, s_term_Name, h11, q_pattern_widths, hwd, q_opinfo_Width, hW, eq_true g1, g2])
        rw [spec 0 (by simp [h8, n24, h11, g1, g2, h3])]
        rcases Classical.propComplete (p.name = bs []) with h6 | h6 <;> (rw [r_pattern_node (Nat.le_of_ble_eq_true rfl), F_pattern_node]; simp (disch := omega) only [eqs, eqL, ↓gc_len, seval, -List.reduceReplicate, reduceCtorEq, omap, depth, pcall, pureR, freezeFor, freezeAll, tupR, resV, purR, enterTm, number, gcOk, rangeEnd, mkTup, allP, q_opinfo_Arity, s_opinfo_Arity, h1, h2, h3, List.length_map, h5', h6, q_pattern_variable, s_pattern_variable, n24, eq_true h8, n2, n21, q_term_Name, s_term_Name, h11, q_pattern_widths, hwd, q_opinfo_Width, hW, eq_true g1, eq_true g2])
    · by_cases h6 : p.name = bs []
      rotate_left
      · rw [spec 4 (by simp [h6, n24])]
        (rw [r_pattern_node (Nat.le_of_ble_eq_true rfl), F_pattern_node]; simp (disch := omega) only [eqs, eqL, ↓gc_len, seval, -List.reduceReplicate, reduceCtorEq, omap, depth, pcall, pureR, freezeFor, freezeAll, tupR, resV, purR, enterTm, number, gcOk, rangeEnd, mkTup, allP, q_opinfo_Arity, s_opinfo_Arity, h1, h2, h3, List.length_map, h5', h6, q_pattern_variable, s_pattern_variable, n24])
      by_cases hv : ¬ p.v = 0 ∧ ¬ p.op = 2 ∧ ¬ p.op = 21
      · obtain ⟨h8, h9, h10⟩ := hv
        rw [spec 4 (by simp [h8, h9, h10])]
        (rw [r_pattern_node (Nat.le_of_ble_eq_true rfl), F_pattern_node]; simp (disch := omega) only [eqs, eqL, ↓gc_len, seval, -List.reduceReplicate, reduceCtorEq, omap, depth, pcall, pureR, freezeFor, freezeAll, tupR, resV, purR, enterTm, number, gcOk, rangeEnd, mkTup, allP, q_opinfo_Arity, s_opinfo_Arity, h1, h2, h3, List.length_map, h5', eq_true h6, q_pattern_variable, s_pattern_variable, n24, h8, h9, h10])
      have hv' : p.v = 0 ∨ (¬ p.v = 0 ∧ p.op = 2) ∨ (¬ p.v = 0 ∧ ¬ p.op = 2 ∧ p.op = 21) := by
        by_cases a : p.v = 0
        · exact .inl a
        · by_cases b : p.op = 2
          · exact .inr (.inl ⟨a, b⟩)
          · exact .inr (.inr ⟨a, b, Decidable.of_not_not fun c => hv ⟨a, b, c⟩⟩)
      have hv8 : ¬ ((¬ p.name = bs [] ∧ ¬ (p.op = 24 ∨ p.op = 25)) ∨ (¬ p.v = 0 ∧ ¬ p.op = 2 ∧ ¬ p.op = 21)) := by
        rintro (h | h)
        · exact h.1 h6
        · exact hv h
      by_cases g1 : re = 0
      rotate_left
      · rw [spec 3 (by rw [if_neg hv8]; simp [n24, g1])]
        rcases Classical.propComplete (p.v = 0) with h8 | h8 <;> rcases Classical.propComplete (p.op = 2) with h9 | h9 <;> rcases Classical.propComplete (p.op = 21) with h10 | h10
        all_goals first
          | (exfalso; simp_all; done)
          | (rw [r_pattern_node (Nat.le_of_ble_eq_true rfl), F_pattern_node]; simp (disch := omega) only [eqs, eqL, ↓gc_len, seval, -List.reduceReplicate, reduceCtorEq, omap, depth, pcall, pureR, freezeFor, freezeAll, tupR, resV, purR, enterTm, number, gcOk, rangeEnd, mkTup, allP, q_opinfo_Arity, s_opinfo_Arity, h1, h2, h3, List.length_map, h5', eq_true h6, q_pattern_variable, s_pattern_variable, n24, h8, h9, h10, q_pattern_widths, hwd, q_opinfo_Width, hW, g1])
      by_cases g2 : rw = p.w
      rotate_left
      · rw [spec 3 (by rw [if_neg hv8]; simp [n24, g2])]
        rcases Classical.propComplete (p.v = 0) with h8 | h8 <;> rcases Classical.propComplete (p.op = 2) with h9 | h9 <;> rcases Classical.propComplete (p.op = 21) with h10 | h10
        all_goals first
          | (exfalso; simp_all; done)
          | (rw [r_pattern_node (Nat.le_of_ble_eq_true rfl), F_pattern_node]; simp (disch := omega) only [eqs, eqL, ↓gc_len, seval, -List.reduceReplicate, reduceCtorEq, omap, depth, pcall, pureR, freezeFor, freezeAll, tupR, resV, purR, enterTm, number, gcOk, rangeEnd, mkTup, allP, q_opinfo_Arity, s_opinfo_Arity, h1, h2, h3, List.length_map, h5', eq_true h6, q_pattern_variable, s_pattern_variable, n24, h8, h9, h10, q_pattern_widths, hwd, q_opinfo_Width, hW, eq_true g1, g2])
      rw [spec 0 (by rw [if_neg hv8]; simp [n24, g1, g2, h3])]
      rcases Classical.propComplete (p.v = 0) with h8 | h8 <;> rcases Classical.propComplete (p.op = 2) with h9 | h9 <;> rcases Classical.propComplete (p.op = 21) with h10 | h10
      all_goals first
        | (exfalso; simp_all; done)
        | (rw [r_pattern_node (Nat.le_of_ble_eq_true rfl), F_pattern_node]; simp (disch := omega) only [eqs, eqL, ↓gc_len, seval, -List.reduceReplicate, reduceCtorEq, omap, depth, pcall, pureR, freezeFor, freezeAll, tupR, resV, purR, enterTm, number, gcOk, rangeEnd, mkTup, allP, q_opinfo_Arity, s_opinfo_Arity, h1, h2, h3, List.length_map, h5', eq_true h6, q_pattern_variable, s_pattern_variable, n24, h8, h9, h10, q_pattern_widths, hwd, q_opinfo_Width, hW, eq_true g1, eq_true g2])
end S
end Go.AE
/- The error of a node of a pattern, by the reference. -/
namespace Go.AE.S
open Go Go.AE
set_option linter.unusedSimpArgs false
set_option linter.unusedVariables false
variable {τ : Tm} {σ : Store} {rd : Option Nat}

abbrev e_nodeR (l : List Term) (i : Int) : List (Nat × AV) := [(7, .p (.lst (l.map Term.row))), (8, .p (.int .i64 i))]
theorem l_r24_node (l : List Term) (hl : l.length ≤ 1000000) : if l.any (fun u => decide (u.op ∈ [24, 26])) = true then
      ∃ r, loopAt P L0_r24_node (e_nodeR l 0) σ 115 rd = some r ∧ ret1 4 (.int .i64 12) σ r
    else loopAt P L0_r24_node (e_nodeR l 0) σ 115 rd = some (.exit 0, ⟨upd (upd (upd (upd (tm (e_nodeR l l.length)) 95 (.p (.int .i64 l.length))) 96 (.p (.lst (l.map Term.row)))) 97 (.p (.int .i64 l.length))) 98 (.p (.bool false)), σ, 115, rd⟩) := by
  have h := loop_foldE (P := P) (nt := 115) (rd := rd) (lv := [7, 8]) (b := B0_r24_node) (x := 0) (as := l) (fun i (_ : Unit) => e_nodeR l i) (fun _ => σ) (fun i _ a => if decide (a.op ∈ [24, 26]) = true then .inr () else .inl ())
    (fun _ => ⟨upd (upd (upd (upd (tm (e_nodeR l l.length)) 95 (.p (.int .i64 l.length))) 96 (.p (.lst (l.map Term.row)))) 97 (.p (.int .i64 l.length))) 98 (.p (.bool false)), σ, 115, rd⟩) (fun _ => ret1 4 (.int .i64 12) σ) (fun _ _ => True)
    (fun i a s ha hi hs => by
      refine ⟨fun _ _ => trivial, ?_⟩
      have hlt : ((i : Int) < l.length) = True := by simpa using hi
      rcases Classical.propComplete (a.op = 24) with h1 | h1 <;> rcases Classical.propComplete (a.op = 26) with h2 | h2 <;> simp only [B0_r24_node] <;> simp (disch := omega) only [eqs, eqL, ↓gc_len, seval, -List.reduceReplicate, reduceCtorEq, omap, depth, pcall, pureR, freezeFor, freezeAll, tupR, resV, purR, enterTm, number, gcOk, rangeEnd, mkTup, allP, hlt, List.length_map, v_iadr (map_get (f := Term.row) ha) a.row_len, h1, h2, List.mem_cons, List.not_mem_nil, ret1]) (fun s hs => by
      simp only [B0_r24_node]
      simp (disch := omega) only [eqs, eqL, ↓gc_len, seval, -List.reduceReplicate, reduceCtorEq, omap, depth, pcall, pureR, freezeFor, freezeAll, tupR, resV, purR, enterTm, number, gcOk, rangeEnd, mkTup, allP, Int.lt_irrefl, List.length_map]) (fun i s => rfl) () trivial
  rw [fold_anyG] at h
  exact (done_fi h :)
set_option maxHeartbeats 8000000 in
theorem s_r24_node (p : Term) (ev : Bool) (ht : TOk p) (hc : p.count ≤ 1000000) : R P f_r24_node [.agg p.row, .bool ev] = some (.int .i64 (nodeE p ev)) := by
  have hlc := Term.counts_len p.args
  have hcc := Term.count_eq p
  by_cases h1 : arity p.op < 0
  · (rw [r_r24_node (Nat.le_of_ble_eq_true rfl), F_r24_node]; simp (disch := omega) only [eqs, eqL, ↓gc_len, seval, -List.reduceReplicate, reduceCtorEq, omap, depth, pcall, pureR, freezeFor, freezeAll, tupR, resV, purR, enterTm, number, gcOk, rangeEnd, mkTup, allP, q_r04_Arity, s_r04_Arity, h1])
    simp [nodeE, h1]
  by_cases h2 : p.op = 1
  · (rw [r_r24_node (Nat.le_of_ble_eq_true rfl), F_r24_node]; simp (disch := omega) only [eqs, eqL, ↓gc_len, seval, -List.reduceReplicate, reduceCtorEq, omap, depth, pcall, pureR, freezeFor, freezeAll, tupR, resV, purR, enterTm, number, gcOk, rangeEnd, mkTup, allP, q_r04_Arity, s_r04_Arity, h1, eq_true h2])
    simp [nodeE, h2]
  by_cases h26 : p.op = 26 ∧ ev = false
  · obtain ⟨h3, rfl⟩ := h26
    (rw [r_r24_node (Nat.le_of_ble_eq_true rfl), F_r24_node]; simp (disch := omega) only [eqs, eqL, ↓gc_len, seval, -List.reduceReplicate, reduceCtorEq, omap, depth, pcall, pureR, freezeFor, freezeAll, tupR, resV, purR, enterTm, number, gcOk, rangeEnd, mkTup, allP, q_r04_Arity, s_r04_Arity, h1, h2, eq_true h3])
    simp [nodeE, h3]
  by_cases h5 : (p.args.length : Int) = arity p.op
  rotate_left
  · have h5' := eq_false h5
    by_cases h3 : p.op = 26
    · have he : ev = true := by cases ev; exact absurd ⟨h3, rfl⟩ h26; rfl
      subst he
      (rw [r_r24_node (Nat.le_of_ble_eq_true rfl), F_r24_node]; simp (disch := omega) only [eqs, eqL, ↓gc_len, seval, -List.reduceReplicate, reduceCtorEq, omap, depth, pcall, pureR, freezeFor, freezeAll, tupR, resV, purR, enterTm, number, gcOk, rangeEnd, mkTup, allP, q_r04_Arity, s_r04_Arity, h1, h2, eq_true h3, List.length_map, h5'])
      simp [nodeE, h5]
    · (rw [r_r24_node (Nat.le_of_ble_eq_true rfl), F_r24_node]; simp (disch := omega) only [eqs, eqL, ↓gc_len, seval, -List.reduceReplicate, reduceCtorEq, omap, depth, pcall, pureR, freezeFor, freezeAll, tupR, resV, purR, enterTm, number, gcOk, rangeEnd, mkTup, allP, q_r04_Arity, s_r04_Arity, h1, h2, h3, List.length_map, h5'])
      simp [nodeE, h5]
  have h5' := eq_true h5
  have hwd := s_r24_widths p (by omega)
  have hvr := s_r24_variable p
  have hW := s_r04_Width p.op p.w p.v (p.args.map Term.w) (by rw [List.length_map]; have := arity_some (o := p.op) (by rcases Decidable.em (1 ≤ p.op ∧ p.op ≤ 26) with h | h; exact h; exact absurd (by rw [arity_none h]; decide) h1); omega) ht.v
  have spec : ∀ x : Int, (if (¬ p.name = bs [] ∧ ¬ (p.op = 24 ∨ p.op = 25)) ∨ (¬ p.v = 0 ∧ ¬ p.op = 2 ∧ ¬ p.op = 21) then 4
      else if (p.op = 24 ∨ p.op = 25) ∧ nameOk p.name = false then 5
      else if ¬ (widthW p.op p.w p.v (p.args.map Term.w)).2 = 0 ∨ ¬ (widthW p.op p.w p.v (p.args.map Term.w)).1 = p.w then 3
      else if p.op = 26 ∧ inner p = true then 12 else 0) = x → nodeE p ev = x := by
    intro x hx
    rw [← hx, nodeE, if_neg]
    rintro (h | h | h | h)
    · exact h1 h
    · exact h2 h
    · exact h26 h
    · exact h h5
  generalize hr : widthW p.op p.w p.v (p.args.map Term.w) = r at hW spec
  obtain ⟨rw, re⟩ := r
  simp only [two] at hW
  by_cases h3 : p.op = 26
  · have he : ev = true := by cases ev; exact absurd ⟨h3, rfl⟩ h26; rfl
    subst he
    have n24 : ¬ (p.op = 24 ∨ p.op = 25) := by omega
    have n2 : ¬ p.op = 2 := by omega
    have n21 : ¬ p.op = 21 := by omega
    by_cases h6 : p.name = bs []
    rotate_left
    · rw [spec 4 (by simp [h6, n24])]
      (rw [r_r24_node (Nat.le_of_ble_eq_true rfl), F_r24_node]; simp (disch := omega) only [eqs, eqL, ↓gc_len, seval, -List.reduceReplicate, reduceCtorEq, omap, depth, pcall, pureR, freezeFor, freezeAll, tupR, resV, purR, enterTm, number, gcOk, rangeEnd, mkTup, allP, q_r04_Arity, s_r04_Arity, h1, h2, eq_true h3, List.length_map, h5', h6, q_r24_variable, hvr, n24])
    by_cases h8 : p.v = 0
    rotate_left
    · rw [spec 4 (by simp [h8, n2, n21])]
      (rw [r_r24_node (Nat.le_of_ble_eq_true rfl), F_r24_node]; simp (disch := omega) only [eqs, eqL, ↓gc_len, seval, -List.reduceReplicate, reduceCtorEq, omap, depth, pcall, pureR, freezeFor, freezeAll, tupR, resV, purR, enterTm, number, gcOk, rangeEnd, mkTup, allP, q_r04_Arity, s_r04_Arity, h1, h2, eq_true h3, List.length_map, h5', eq_true h6, q_r24_variable, hvr, n24, h8, n2, n21])
    by_cases g1 : re = 0
    rotate_left
    · rw [spec 3 (by simp [h6, h8, n24, g1])]
      (rw [r_r24_node (Nat.le_of_ble_eq_true rfl), F_r24_node]; simp (disch := omega) only [eqs, eqL, ↓gc_len, seval, -List.reduceReplicate, reduceCtorEq, omap, depth, pcall, pureR, freezeFor, freezeAll, tupR, resV, purR, enterTm, number, gcOk, rangeEnd, mkTup, allP, q_r04_Arity, s_r04_Arity, h1, h2, eq_true h3, List.length_map, h5', eq_true h6, q_r24_variable, hvr, n24, eq_true h8, n2, n21, q_r24_widths, hwd, q_r04_Width, hW, g1])
    by_cases g2 : rw = p.w
    rotate_left
    · rw [spec 3 (by simp [h6, h8, n24, g2])]
      (rw [r_r24_node (Nat.le_of_ble_eq_true rfl), F_r24_node]; simp (disch := omega) only [eqs, eqL, ↓gc_len, seval, -List.reduceReplicate, reduceCtorEq, omap, depth, pcall, pureR, freezeFor, freezeAll, tupR, resV, purR, enterTm, number, gcOk, rangeEnd, mkTup, allP, q_r04_Arity, s_r04_Arity, h1, h2, eq_true h3, List.length_map, h5', eq_true h6, q_r24_variable, hvr, n24, eq_true h8, n2, n21, q_r24_widths, hwd, q_r04_Width, hW, eq_true g1, g2])
    rw [h3, ar26] at h5
    obtain ⟨a, hal⟩ : ∃ a, p.args = [a] := by
      match hp : p.args with
      | [a] => exact ⟨a, rfl⟩
      | [] => rw [hp] at h5; simp at h5
      | a :: b :: l => rw [hp] at h5; simp at h5; omega
    have ha0 : p.args[0]? = some a := by rw [hal]; rfl
    have hac : a.count ≤ 1000000 := by have := Term.counts_mem (l := p.args) (a := a) (by rw [hal]; simp); omega
    have hpo := s_r24_Postorder a hac
    have hL := l_r24_node (σ := []) (rd := none) a.post (by rw [Term.post_len]; omega)
    have i0 := v_ia0 (k := .i64) (σ := []) (es := 5) (map_get (f := Term.row) ha0) a.row_len
    have hin : inner p = a.pre.any fun u => decide (u.op ∈ [24, 26]) := by unfold inner; rw [hal]
    rw [spec (if inner p = true then 12 else 0) (by simp [h3, h6, h8, g1, g2])]
    rw [hin]
    rw [Term.post_any] at hL
    cases hb : a.pre.any fun u => decide (u.op ∈ [24, 26]) with
    | true =>
      rw [hb, if_pos rfl] at hL
      obtain ⟨⟨e, τ', σ', nt', rd'⟩, k1, k2, k3, k4⟩ := hL
      simp only at k2 k3 k4
      subst k2; subst k4
      (rw [r_r24_node (Nat.le_of_ble_eq_true rfl), F_r24_node]; simp (disch := omega) only [eqs, eqL, ↓gc_len, seval, -List.reduceReplicate, reduceCtorEq, omap, depth, pcall, pureR, freezeFor, freezeAll, tupR, resV, purR, enterTm, number, gcOk, rangeEnd, mkTup, allP, q_r04_Arity, s_r04_Arity, h1, h2, eq_true h3, List.length_map, h5', eq_true h6, q_r24_variable, hvr, n24, eq_true h8, n2, n21, q_r24_widths, hwd, q_r04_Width, hW, eq_true g1, eq_true g2, i0, q_r24_Postorder, hpo, k0_r24_node, k1, k3])
    | false =>
      rw [hb, if_neg (by simp)] at hL
      (rw [r_r24_node (Nat.le_of_ble_eq_true rfl), F_r24_node]; simp (disch := omega) only [eqs, eqL, ↓gc_len, seval, -List.reduceReplicate, reduceCtorEq, omap, depth, pcall, pureR, freezeFor, freezeAll, tupR, resV, purR, enterTm, number, gcOk, rangeEnd, mkTup, allP, q_r04_Arity, s_r04_Arity, h1, h2, eq_true h3, List.length_map, h5', eq_true h6, q_r24_variable, hvr, n24, eq_true h8, n2, n21, q_r24_widths, hwd, q_r04_Width, hW, eq_true g1, eq_true g2, i0, q_r24_Postorder, hpo, k0_r24_node, hL])
  · by_cases n24 : p.op = 24 ∨ p.op = 25
    · have n2 : ¬ p.op = 2 := by omega
      have n21 : ¬ p.op = 21 := by omega
      by_cases h8 : p.v = 0
      rotate_left
      · rw [spec 4 (by simp [h8, n2, n21])]
        (rw [r_r24_node (Nat.le_of_ble_eq_true rfl), F_r24_node]; simp (disch := omega) only [eqs, eqL, ↓gc_len, seval, -List.reduceReplicate, reduceCtorEq, omap, depth, pcall, pureR, freezeFor, freezeAll, tupR, resV, purR, enterTm, number, gcOk, rangeEnd, mkTup, allP, q_r04_Arity, s_r04_Arity, h1, h2, h3, List.length_map, h5', q_r24_variable, hvr, n24, h8, n2, n21])
      cases h11 : nameOk p.name with
      | false =>
        rw [spec 5 (by simp [h8, n24, h11])]
        (rw [r_r24_node (Nat.le_of_ble_eq_true rfl), F_r24_node]; simp (disch := omega) only [eqs, eqL, ↓gc_len, seval, -List.reduceReplicate, reduceCtorEq, omap, depth, pcall, pureR, freezeFor, freezeAll, tupR, resV, purR, enterTm, number, gcOk, rangeEnd, mkTup, allP, q_r04_Arity, s_r04_Arity, h1, h2, h3, List.length_map, h5', q_r24_variable, hvr, n24, eq_true h8, n2, n21, q_r07_Name, s_r07_Name, h11])
      | true =>
        by_cases g1 : re = 0
        rotate_left
        · rw [spec 3 (by simp [h8, n24, h11, g1])]
          (rw [r_r24_node (Nat.le_of_ble_eq_true rfl), F_r24_node]; simp (disch := omega) only [eqs, eqL, ↓gc_len, seval, -List.reduceReplicate, reduceCtorEq, omap, depth, pcall, pureR, freezeFor, freezeAll, tupR, resV, purR, enterTm, number, gcOk, rangeEnd, mkTup, allP, q_r04_Arity, s_r04_Arity, h1, h2, h3, List.length_map, h5', q_r24_variable, hvr, n24, eq_true h8, n2, n21, q_r07_Name, s_r07_Name, h11, q_r24_widths, hwd, q_r04_Width, hW, g1])
        by_cases g2 : rw = p.w
        rotate_left
        · rw [spec 3 (by simp [h8, n24, h11, g2])]
          (rw [r_r24_node (Nat.le_of_ble_eq_true rfl), F_r24_node]; simp (disch := omega) only [eqs, eqL, ↓gc_len, seval, -List.reduceReplicate, reduceCtorEq, omap, depth, pcall, pureR, freezeFor, freezeAll, tupR, resV, purR, enterTm, number, gcOk, rangeEnd, mkTup, allP, q_r04_Arity, s_r04_Arity, h1, h2, h3, List.length_map, h5', q_r24_variable, hvr, n24, eq_true h8, n2, n21, q_r07_Name, s_r07_Name, h11, q_r24_widths, hwd, q_r04_Width, hW, eq_true g1, g2])
        rw [spec 0 (by simp [h8, n24, h11, g1, g2, h3])]
        (rw [r_r24_node (Nat.le_of_ble_eq_true rfl), F_r24_node]; simp (disch := omega) only [eqs, eqL, ↓gc_len, seval, -List.reduceReplicate, reduceCtorEq, omap, depth, pcall, pureR, freezeFor, freezeAll, tupR, resV, purR, enterTm, number, gcOk, rangeEnd, mkTup, allP, q_r04_Arity, s_r04_Arity, h1, h2, h3, List.length_map, h5', q_r24_variable, hvr, n24, eq_true h8, n2, n21, q_r07_Name, s_r07_Name, h11, q_r24_widths, hwd, q_r04_Width, hW, eq_true g1, eq_true g2])
    · by_cases h6 : p.name = bs []
      rotate_left
      · rw [spec 4 (by simp [h6, n24])]
        (rw [r_r24_node (Nat.le_of_ble_eq_true rfl), F_r24_node]; simp (disch := omega) only [eqs, eqL, ↓gc_len, seval, -List.reduceReplicate, reduceCtorEq, omap, depth, pcall, pureR, freezeFor, freezeAll, tupR, resV, purR, enterTm, number, gcOk, rangeEnd, mkTup, allP, q_r04_Arity, s_r04_Arity, h1, h2, h3, List.length_map, h5', h6, q_r24_variable, hvr, n24])
      by_cases hv : ¬ p.v = 0 ∧ ¬ p.op = 2 ∧ ¬ p.op = 21
      · obtain ⟨h8, h9, h10⟩ := hv
        rw [spec 4 (by simp [h8, h9, h10])]
        (rw [r_r24_node (Nat.le_of_ble_eq_true rfl), F_r24_node]; simp (disch := omega) only [eqs, eqL, ↓gc_len, seval, -List.reduceReplicate, reduceCtorEq, omap, depth, pcall, pureR, freezeFor, freezeAll, tupR, resV, purR, enterTm, number, gcOk, rangeEnd, mkTup, allP, q_r04_Arity, s_r04_Arity, h1, h2, h3, List.length_map, h5', eq_true h6, q_r24_variable, hvr, n24, h8, h9, h10])
      have hv8 : ¬ ((¬ p.name = bs [] ∧ ¬ (p.op = 24 ∨ p.op = 25)) ∨ (¬ p.v = 0 ∧ ¬ p.op = 2 ∧ ¬ p.op = 21)) := by
        rintro (h | h)
        · exact h.1 h6
        · exact hv h
      by_cases g1 : re = 0
      rotate_left
      · rw [spec 3 (by rw [if_neg hv8]; simp [n24, g1])]
        rcases Classical.propComplete (p.v = 0) with h8 | h8 <;> rcases Classical.propComplete (p.op = 2) with h9 | h9 <;> rcases Classical.propComplete (p.op = 21) with h10 | h10
        all_goals first
          | (exfalso; simp_all; done)
          | (rw [r_r24_node (Nat.le_of_ble_eq_true rfl), F_r24_node]; simp (disch := omega) only [eqs, eqL, ↓gc_len, seval, -List.reduceReplicate, reduceCtorEq, omap, depth, pcall, pureR, freezeFor, freezeAll, tupR, resV, purR, enterTm, number, gcOk, rangeEnd, mkTup, allP, q_r04_Arity, s_r04_Arity, h1, h2, h3, List.length_map, h5', eq_true h6, q_r24_variable, hvr, n24, h8, h9, h10, q_r24_widths, hwd, q_r04_Width, hW, g1])
      by_cases g2 : rw = p.w
      rotate_left
      · rw [spec 3 (by rw [if_neg hv8]; simp [n24, g2])]
        rcases Classical.propComplete (p.v = 0) with h8 | h8 <;> rcases Classical.propComplete (p.op = 2) with h9 | h9 <;> rcases Classical.propComplete (p.op = 21) with h10 | h10
        all_goals first
          | (exfalso; simp_all; done)
          | (rw [r_r24_node (Nat.le_of_ble_eq_true rfl), F_r24_node]; simp (disch := omega) only [eqs, eqL, ↓gc_len, seval, -List.reduceReplicate, reduceCtorEq, omap, depth, pcall, pureR, freezeFor, freezeAll, tupR, resV, purR, enterTm, number, gcOk, rangeEnd, mkTup, allP, q_r04_Arity, s_r04_Arity, h1, h2, h3, List.length_map, h5', eq_true h6, q_r24_variable, hvr, n24, h8, h9, h10, q_r24_widths, hwd, q_r04_Width, hW, eq_true g1, g2])
      rw [spec 0 (by rw [if_neg hv8]; simp [n24, g1, g2, h3])]
      rcases Classical.propComplete (p.v = 0) with h8 | h8 <;> rcases Classical.propComplete (p.op = 2) with h9 | h9 <;> rcases Classical.propComplete (p.op = 21) with h10 | h10
      all_goals first
        | (exfalso; simp_all; done)
        | (rw [r_r24_node (Nat.le_of_ble_eq_true rfl), F_r24_node]; simp (disch := omega) only [eqs, eqL, ↓gc_len, seval, -List.reduceReplicate, reduceCtorEq, omap, depth, pcall, pureR, freezeFor, freezeAll, tupR, resV, purR, enterTm, number, gcOk, rangeEnd, mkTup, allP, q_r04_Arity, s_r04_Arity, h1, h2, h3, List.length_map, h5', eq_true h6, q_r24_variable, hvr, n24, h8, h9, h10, q_r24_widths, hwd, q_r04_Width, hW, eq_true g1, eq_true g2])
end Go.AE.S
