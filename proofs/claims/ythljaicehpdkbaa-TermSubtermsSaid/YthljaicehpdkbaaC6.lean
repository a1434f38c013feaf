/- The reference's At. --M-- -/
import Derived.Test.YthljaicehpdkbaaC4
namespace Go.AE.S
open Go Go.AE
set_option linter.unusedSimpArgs false
set_option linter.unusedVariables false
variable {τ : Tm} {σ : Store} {rd : Option Nat}
abbrev e_rat (p : List Int) (i : Int) : List (Nat × AV) := [(1, .p (.lst (p.map irow))), (2, .ptr 0 1 0 0), (4, .ptr 2 1 0 0), (6, .p (.int .i64 i))]
abbrev sRat (t : Term) : Store := [.pv 5 [t.row] false, .pv 0 [] false, .av 5 [z5 1] false]
def outRat (r : Ex × St) : Prop := r.1 = .ret ∧ r.2.τ.get 4 = .ptr 2 1 0 0 ∧ r.2.τ.get 5 = .p (.bool false) ∧ ∃ o0 o1 b, r.2.σ = [o0, o1, .av 5 [z5 b] false, .pv 0 [] false] ∧ b = 3
set_option maxHeartbeats 4000000 in
theorem s_r06_At (t : Term) (p : List Int) (hpl : p.length ≤ 1000000) : R P f_r06_At [.agg t.row, .lst (p.map irow)] = some (.tup (tupA (t.atP p))) := by
  have h := loop_to (P := P) (nt := 38) (lv := [1, 2, 4, 6]) (b := B0_r06_At) (rd := none) (as := p) (fun i (_ : Term) => e_rat p i) sRat stepA (fun _ => outRat) (fun _ s => True)
    (fun k i s hi hk hs => by
      have hlt : ((k : Int) < p.length) = True := by simpa using hk
      have hpi := fun σ => v_iadr (k := .i64) (es := 1) (σ := σ) (map_get (f := irow) hi) rfl
      simp only [irow] at hpi
      unfold stepA
      by_cases h1 : 0 ≤ i
      · obtain ⟨j, rfl⟩ := Int.eq_ofNat_of_zero_le h1
        have h1' : ((j : Int) < 0) = False := by simp
        simp only [h1, if_true, Int.toNat_natCast]
        cases ha : s.args[j]? with
        | none =>
          have hl : ((s.args.length : Int) ≤ j) = True := by
            have := List.getElem?_eq_none_iff.1 ha
            simp; omega
          refine ⟨fun s' he => (by cases he), ?_⟩
          simp only [B0_r06_At]
          simp (disch := omega) only [eqs, eqL, ↓gc_len, seval, -List.reduceReplicate, reduceCtorEq, omap, depth, pcall, pureR, freezeFor, freezeAll, tupR, resV, purR, enterTm, number, gcOk, rangeEnd, mkTup, allP, eqM, hlt, hpi, h1', hl, ldT_4, stT_T, List.length_map, e_rat, sRat, z5, outRat]
          exact ⟨_, _, _, rfl, rfl⟩
        | some a =>
          have hl : ((s.args.length : Int) ≤ j) = False := by
            have := (List.getElem?_eq_some_iff.1 ha).1
            simp; omega
          have hsi := fun σ => v_iadr (k := .i64) (es := 5) (σ := σ) (map_get (f := Term.row) ha) a.row_len
          refine ⟨fun s' he => trivial, ?_⟩
          simp only [B0_r06_At]
          simp (disch := omega) only [eqs, eqL, ↓gc_len, seval, -List.reduceReplicate, reduceCtorEq, omap, depth, pcall, pureR, freezeFor, freezeAll, tupR, resV, purR, enterTm, number, gcOk, rangeEnd, mkTup, allP, eqM, hlt, hpi, h1', hl, ldT_4, stT_T, hsi, List.length_map, e_rat, sRat, z5]
      · have h1' : (i < 0) = True := by simp; omega
        simp only [h1, if_false]
        refine ⟨fun s' he => (by cases he), ?_⟩
        simp only [B0_r06_At]
        simp (disch := omega) only [eqs, eqL, ↓gc_len, seval, -List.reduceReplicate, reduceCtorEq, omap, depth, pcall, pureR, freezeFor, freezeAll, tupR, resV, purR, enterTm, number, gcOk, rangeEnd, mkTup, allP, eqM, hlt, hpi, h1', List.length_map, e_rat, sRat, z5, outRat]
        exact ⟨_, _, _, rfl, rfl⟩) (fun i s => rfl) t trivial
  rw [fold_atP] at h
  cases hp : t.atP p with
  | none =>
    rw [hp] at h
    obtain ⟨⟨e, τ', σ', nt', rd'⟩, h1, h2, h3, h4, o0, o1, b, h5, rfl⟩ := h
    simp only at h2 h3 h4 h5
    subst h2; subst h5
    have h' : loopAt P L0_r06_At (e_rat p 0) [.pv 5 [t.row] false, .pv 0 [] false, .av 5 [z5 1] false] 38 none = _ := h1
    simp only [z5] at h'
    (rw [r_r06_At (Nat.le_of_ble_eq_true rfl), F_r06_At]; simp (disch := omega) only [eqs, eqL, ↓gc_len, seval, -List.reduceReplicate, reduceCtorEq, omap, depth, pcall, pureR, freezeFor, freezeAll, tupR, resV, purR, enterTm, number, gcOk, rangeEnd, mkTup, allP, eqM, List.length_map, k0_r06_At, h', h3, h4, z5])
    simp [tupA, zT_row]
  | some x =>
    rw [hp] at h
    obtain ⟨hk, h1⟩ := h
    have h' : loopAt P L0_r06_At (e_rat p 0) [.pv 5 [t.row] false, .pv 0 [] false, .av 5 [z5 1] false] 38 none = _ := h1
    simp only [z5] at h'
    (rw [r_r06_At (Nat.le_of_ble_eq_true rfl), F_r06_At]; simp (disch := omega) only [eqs, eqL, ↓gc_len, seval, -List.reduceReplicate, reduceCtorEq, omap, depth, pcall, pureR, freezeFor, freezeAll, tupR, resV, purR, enterTm, number, gcOk, rangeEnd, mkTup, allP, eqM, List.length_map, k0_r06_At, h', B0_r06_At, Int.lt_irrefl, e_rat, sRat, z5])
    simp [tupA]
end Go.AE.S
/- The reference's Put. --M-- -/
namespace Go.AE.S
open Go Go.AE
set_option linter.unusedSimpArgs false
set_option linter.unusedVariables false
variable {τ : Tm} {σ : Store} {rd : Option Nat}
theorem build_5s {a b c d e : AV} {k0 k1 k2 : IntKind} {q0 q1 q2 : Int} {q3 : ByteArray} {bb m : Nat} : buildV [a, b, c, d, e] [(0, 1, .p (.int k0 q0)), (1, 1, .p (.int k1 q1)), (2, 1, .p (.int k2 q2)), (3, 1, .p (.str q3)), (4, 1, .sl bb m)] = some (mkAgg [.p (.int k0 q0), .p (.int k1 q1), .p (.int k2 q2), .p (.str q3), .sl bb m]) := rfl
set_option maxHeartbeats 4000000 in
theorem s_r06_Put (u : Term) : ∀ (p : List Int) (t : Term), t.count ≤ 1000000 → p.length ≤ 1000000 → R P f_r06_Put [.agg t.row, .lst (p.map irow), .agg u.row] = some (.tup (tupA (t.putP u p)))
  | [], t, hc, hpl => by
    (rw [r_r06_Put (Nat.le_of_ble_eq_true rfl), F_r06_Put]; simp (disch := omega) only [eqs, eqL, ↓gc_len, seval, -List.reduceReplicate, reduceCtorEq, omap, depth, pcall, pureR, freezeFor, freezeAll, tupR, resV, purR, enterTm, number, gcOk, rangeEnd, mkTup, allP, eqM, z5])
    simp [tupA, Term.putP]
  | i :: r, t, hc, hpl => by
    have hz : (((r.length + 1 : Nat) : Int) = 0) = False := by simp; omega
    have hpi : ∀ σ, iadrSV σ 1 (.p (.lst (irow i :: r.map irow))) (.p (.int .i64 0)) = some (.p (.ptr (irow i) 0)) := fun σ => v_iadr (k := .i64) (es := 1) (σ := σ) (i := 0) (rows := irow i :: r.map irow) (r := irow i) rfl rfl
    have hso := slc_one (i := i) (r := r)
    simp only [irow] at hpi hso
    by_cases h0 : 0 ≤ i
    · obtain ⟨j, rfl⟩ := Int.eq_ofNat_of_zero_le h0
      have h1' : ((j : Int) < 0) = False := by simp
      cases ha : t.args[j]? with
      | none =>
        have hl : ((t.args.length : Int) ≤ j) = True := by
          have := List.getElem?_eq_none_iff.1 ha
          simp; omega
        have hn : t.putP u ((j : Int) :: r) = none := by
          simp only [Term.putP, Int.toNat_natCast, ha]
          rw [if_pos h0]
        rw [hn]
        (rw [r_r06_Put (Nat.le_of_ble_eq_true rfl), F_r06_Put]; simp (disch := omega) only [eqs, eqL, ↓gc_len, seval, -List.reduceReplicate, reduceCtorEq, omap, depth, pcall, pureR, freezeFor, freezeAll, tupR, resV, purR, enterTm, number, gcOk, rangeEnd, mkTup, allP, eqM, irow, List.map_cons, List.length_cons, List.length_map, hz, hpi, h1', hl, ldT_4, z5])
        simp [tupA, zT_row]
      | some a =>
        have hl : ((t.args.length : Int) ≤ j) = False := by
          have := (List.getElem?_eq_some_iff.1 ha).1
          simp; omega
        have hac := Term.counts_mem (List.mem_of_getElem? ha)
        have hct := Term.count_eq t
        have hlen := Term.counts_len t.args
        have hj := (List.getElem?_eq_some_iff.1 ha).1
        have hr := s_r06_Put u r a (by omega) (by simp at hpl; omega)
        have hsi := fun σ => v_iadr (k := .i64) (es := 5) (σ := σ) (map_get (f := Term.row) ha) a.row_len
        cases hv : a.putP u r with
        | none =>
          rw [hv] at hr
          have hn : t.putP u ((j : Int) :: r) = none := by
            simp only [Term.putP, Int.toNat_natCast, ha, hv]
            rw [if_pos h0]
          rw [hn]
          simp only [tupA] at hr
          (rw [r_r06_Put (Nat.le_of_ble_eq_true rfl), F_r06_Put]; simp (disch := omega) only [eqs, eqL, ↓gc_len, seval, -List.reduceReplicate, reduceCtorEq, omap, depth, pcall, pureR, freezeFor, freezeAll, tupR, resV, purR, enterTm, number, gcOk, rangeEnd, mkTup, allP, eqM, irow, List.map_cons, List.length_cons, List.length_map, hz, hpi, h1', hl, ldT_4, hso, hsi, q_r06_Put, hr, z5])
          simp [tupA, zT_row]
        | some v =>
          rw [hv] at hr
          have hn : t.putP u ((j : Int) :: r) = some (.mk t.op t.w t.v t.name (t.args.set j v)) := by
            simp only [Term.putP, Int.toNat_natCast, ha, hv]
            rw [if_pos h0]
          rw [hn]
          simp only [tupA] at hr
          have hw5 : wide 5 (t.args.map Term.row) = true := by simp [wide, Term.row_len]
          have hsrc := fun (σ : Store) => src_p (σ := σ) hw5
          have hap := fun (o0 o1 o2 o3 : Obj) => v_append (σ := [o0, o1, o2, o3, .pv 0 [] false]) (b := 4) (n := 0) (e := 0) (es := 5) (bytes := 64) (rows := []) (new := t.args.map Term.row) rfl rfl (.inr ⟨rfl, rfl⟩) (by simp; omega)
          simp only [List.nil_append, List.length_map, Nat.zero_add] at hap
          have hia := fun (o0 o1 o2 o3 : Obj) => ia_sl (σ := [o0, o1, o2, o3, .pv 5 (t.args.map Term.row) false]) (b := 4) (m := t.args.length) (j := j) rfl (by simp) hj rfl
          have hst := fun (σ : Store) => stR_T (v := v) (σ := σ) (b := 4) (m := t.args.length) (e := 5) (j := j) (rows := t.args.map Term.row) (by simp) (fun x hx => by obtain ⟨y, _, rfl⟩ := List.mem_map.1 hx; exact y.row_len) hj
          (rw [r_r06_Put (Nat.le_of_ble_eq_true rfl), F_r06_Put]; simp (disch := omega) only [eqs, eqL, ↓gc_len, seval, -List.reduceReplicate, reduceCtorEq, omap, depth, pcall, pureR, freezeFor, freezeAll, tupR, resV, purR, enterTm, number, gcOk, rangeEnd, mkTup, allP, eqM, irow, List.map_cons, List.length_cons, List.length_map, hz, hpi, h1', hl, ldT_4, hso, hsi, q_r06_Put, hr, hsrc, hap, hia, hst, build_5s, z5])
          simp [tupA, zT_row]
          rw [Term.row_eq (Term.mk t.op t.w t.v t.name (t.args.set j v)), ← List.map_set]
          rfl
    · have h1' : (i < 0) = True := by simp; omega
      have hn : t.putP u (i :: r) = none := by
        simp only [Term.putP]
        rw [if_neg h0]
      rw [hn]
      (rw [r_r06_Put (Nat.le_of_ble_eq_true rfl), F_r06_Put]; simp (disch := omega) only [eqs, eqL, ↓gc_len, seval, -List.reduceReplicate, reduceCtorEq, omap, depth, pcall, pureR, freezeFor, freezeAll, tupR, resV, purR, enterTm, number, gcOk, rangeEnd, mkTup, allP, eqM, irow, List.map_cons, List.length_cons, List.length_map, hz, hpi, h1', ldT_4, z5])
      simp [tupA, zT_row]
end Go.AE.S
/- The law of paths. --M-- -/
namespace Go.AE
namespace Term
theorem counts_set : ∀ (l : List Term) (j : Nat) (a v : Term), l[j]? = some a → counts (l.set j v) + a.count = counts l + v.count
  | [], j, a, v, h => by simp at h
  | x :: l, 0, a, v, h => by simp at h; subst h; simp only [List.set_cons_zero, counts]; omega
  | x :: l, j + 1, a, v, h => by
    simp only [List.getElem?_cons_succ] at h
    have := counts_set l j a v h
    simp only [List.set_cons_succ, counts]; omega
theorem putP_some {u : Term} {i : Int} {r : List Int} {t c : Term} (h : t.putP u (i :: r) = some c) : ∃ (j : Nat) (a v : Term), i = j ∧ t.args[j]? = some a ∧ a.putP u r = some v ∧ c = .mk t.op t.w t.v t.name (t.args.set j v) := by
  simp only [putP] at h
  split at h
  · rename_i h0
    obtain ⟨j, rfl⟩ := Int.eq_ofNat_of_zero_le h0
    simp only [Int.toNat_natCast] at h
    split at h
    · rename_i a ha
      split at h
      · rename_i v hv
        injection h with h
        exact ⟨j, a, v, rfl, ha, hv, h.symm⟩
      · cases h
    · cases h
  · cases h
theorem putP_of {u : Term} {r : List Int} {t a v : Term} {j : Nat} (ha : t.args[j]? = some a) (hv : a.putP u r = some v) : t.putP u ((j : Int) :: r) = some (.mk t.op t.w t.v t.name (t.args.set j v)) := by
  simp only [putP, Int.toNat_natCast, ha, hv]
  rw [if_pos (Int.natCast_nonneg j)]
theorem atP_of {r : List Int} {t a : Term} {j : Nat} (ha : t.args[j]? = some a) : t.atP ((j : Int) :: r) = a.atP r := by
  simp only [atP, Int.toNat_natCast, ha]
  rw [if_pos (Int.natCast_nonneg j)]
theorem putP_count {u : Term} : ∀ {p : List Int} {t c : Term}, t.putP u p = some c → c.count ≤ t.count + u.count
  | [], t, c, h => by simp only [putP, Option.some.injEq] at h; subst h; omega
  | i :: r, t, c, h => by
    obtain ⟨j, a, v, rfl, ha, hv, rfl⟩ := putP_some h
    have h1 := putP_count hv
    have h2 := counts_set t.args j a v ha
    have h3 := count_eq t
    have h4 := count_eq (.mk t.op t.w t.v t.name (t.args.set j v))
    have h5 : (Term.mk t.op t.w t.v t.name (t.args.set j v)).args = t.args.set j v := rfl
    rw [h5] at h4
    omega
theorem atP_put {u : Term} : ∀ {p : List Int} {t c : Term}, t.putP u p = some c → c.atP p = some u
  | [], t, c, h => by simp only [putP, Option.some.injEq] at h; subst h; rfl
  | i :: r, t, c, h => by
    obtain ⟨j, a, v, rfl, ha, hv, rfl⟩ := putP_some h
    have hj := (List.getElem?_eq_some_iff.1 ha).1
    have : (Term.mk t.op t.w t.v t.name (t.args.set j v)).args[j]? = some v := by
      show (t.args.set j v)[j]? = some v
      rw [List.getElem?_set_self hj]
    rw [atP_of this]
    exact atP_put hv
theorem put_back {u : Term} : ∀ {p : List Int} {t c x : Term}, t.putP u p = some c → t.atP p = some x → c.putP x p = some t
  | [], t, c, x, h, hx => by simp only [atP] at hx; simpa [putP] using hx.symm
  | i :: r, t, c, x, h, hx => by
    obtain ⟨j, a, v, rfl, ha, hv, rfl⟩ := putP_some h
    have hj := (List.getElem?_eq_some_iff.1 ha).1
    have h1 : (Term.mk t.op t.w t.v t.name (t.args.set j v)).args[j]? = some v := by
      show (t.args.set j v)[j]? = some v
      rw [List.getElem?_set_self hj]
    rw [atP_of ha] at hx
    rw [putP_of h1 (put_back hv hx)]
    show some (Term.mk t.op t.w t.v t.name ((t.args.set j v).set j a)) = some t
    rw [List.set_set]
    have : t.args.set j a = t.args := by
      apply List.ext_getElem?
      intro k
      by_cases hk : j = k
      · subst hk; rw [List.getElem?_set_self hj, ha]
      · rw [List.getElem?_set_ne hk]
    rw [this]
    cases t; rfl
end Term
namespace S
open Go Go.AE
set_option linter.unusedSimpArgs false
set_option linter.unusedVariables false
variable {τ : Tm} {σ : Store} {rd : Option Nat}
theorem atP_TOk : ∀ {p : List Int} {t x : Term}, TOk t → t.atP p = some x → TOk x
  | [], t, x, ht, h => by simp only [Term.atP, Option.some.injEq] at h; subst h; exact ht
  | i :: r, t, x, ht, h => by
    simp only [Term.atP] at h
    split at h
    · split at h
      · rename_i a ha
        exact atP_TOk (ht.args (List.mem_of_getElem? ha)) h
      · cases h
    · cases h
theorem putP_TOk {u : Term} (hu : TOk u) : ∀ {p : List Int} {t c : Term}, TOk t → t.putP u p = some c → TOk c
  | [], t, c, ht, h => by simp only [Term.putP, Option.some.injEq] at h; subst h; exact hu
  | i :: r, t, c, ht, h => by
    obtain ⟨j, a, v, rfl, ha, hv, rfl⟩ := Term.putP_some h
    have h1 := putP_TOk hu (ht.args (List.mem_of_getElem? ha)) hv
    refine .mk _ ht.op ht.w ht.v ht.name (by show (t.args.set j v).length ≤ _; rw [List.length_set]; exact ht.len) ?_
    intro y hy
    rcases List.mem_or_eq_of_mem_set hy with h2 | rfl
    · exact ht.args h2
    · exact h1
theorem bq_s (t : Term) : t.beq t = true := (Term.beq_iff t t).2 rfl
theorem bsl_2t {a b : Term} : bsliceV σ 5 2 (fillP (List.replicate 2 [.p (.int .i64 0), .p (.int .i64 0), .p (.int .u64 0), .p (.str (bs [])), .nils]).flatten [(0, 5, .p (.agg a.row)), (5, 5, .p (.agg b.row))]) = some (.sl σ.length 2, σ ++ [.pv 5 [a.row, b.row] false]) := by rw [Term.row_eq a, Term.row_eq b]; rfl
theorem blist_2t {a b : Term} : blistV σ 5 2 (fillP (List.replicate 2 [.p (.int .i64 0), .p (.int .i64 0), .p (.int .u64 0), .p (.str (bs [])), .nils]).flatten [(0, 5, .p (.agg a.row)), (5, 5, .p (.agg b.row))]) = some (.p (.lst [a.row, b.row]), σ) := by rw [Term.row_eq a, Term.row_eq b]; rfl
set_option maxHeartbeats 8000000 in
theorem p_TermPaths (t u : Term) (p : List Int) (ht : TOk t) (hu : TOk u) : R P f_law06_TermPaths [.agg t.row, .agg u.row, .lst (p.map irow)] = some (.bool true) := by
  have hl := s_light [t, u] (by simp) (fun x hx => by
    rcases List.mem_cons.1 hx with rfl | hx
    · exact ht
    · rcases List.mem_cons.1 hx with rfl | hx
      · exact hu
      · simp at hx)
  simp only [List.map_cons, List.map_nil] at hl
  have hv := s_l06
  cases hq : [t, u].all lightB with
  | false =>
    rw [hq] at hl
    (rw [r_law06_TermPaths (Nat.le_of_ble_eq_true rfl), F_law06_TermPaths]; simp (disch := omega) only [eqs, eqL, ↓gc_len, seval, -List.reduceReplicate, reduceCtorEq, omap, depth, pcall, pureR, freezeFor, freezeAll, tupR, resV, purR, enterTm, number, gcOk, rangeEnd, mkTup, allP, eqM, bsl_2t, blist_2t, q_law06_light, hl, q_law06_lives, hv])
  | true =>
    rw [hq] at hl
    have hcnt : ∀ x ∈ [t, u], x.count ≤ 200 := fun x hx => by
      have := of_decide_eq_true (List.all_eq_true.1 hq x hx)
      omega
    have nt := hcnt t (by simp)
    have nu := hcnt u (by simp)
    rcases Classical.propComplete ((p.length : Int) > 60) with c1 | c1
    · (rw [r_law06_TermPaths (Nat.le_of_ble_eq_true rfl), F_law06_TermPaths]; simp (disch := omega) only [eqs, eqL, ↓gc_len, seval, -List.reduceReplicate, reduceCtorEq, omap, depth, pcall, pureR, freezeFor, freezeAll, tupR, resV, purR, enterTm, number, gcOk, rangeEnd, mkTup, allP, eqM, bsl_2t, blist_2t, q_law06_light, hl, q_law06_lives, hv, List.length_map, c1])
    · have hpl : p.length ≤ 60 := by have := of_eq_false c1; omega
      have k1 := s_term_At t p (by omega) (by omega)
      have k2 := s_r06_At t p (by omega)
      have k3 := s_term_Put u (by omega) p t (by omega) (by omega)
      have k4 := s_r06_Put u p t (by omega) (by omega)
      have hpa := put_at u p t
      cases hx : t.atP p with
      | none =>
        rw [hx] at hpa k1 k2
        have hn : t.putP u p = none := by simpa using hpa
        rw [hn] at k3 k4
        simp only [tupA] at k1 k2 k3 k4
        have k5 := s_r06_Same zT tok_zT zT
        rw [bq_s] at k5
        (rw [r_law06_TermPaths (Nat.le_of_ble_eq_true rfl), F_law06_TermPaths]; simp (disch := omega) only [eqs, eqL, ↓gc_len, seval, -List.reduceReplicate, reduceCtorEq, omap, depth, pcall, pureR, freezeFor, freezeAll, tupR, resV, purR, enterTm, number, gcOk, rangeEnd, mkTup, allP, eqM, bsl_2t, blist_2t, q_law06_light, hl, q_law06_lives, hv, List.length_map, c1, q_term_At, k1, q_r06_At, k2, q_term_Put, k3, q_r06_Put, k4, q_r06_Same, k5, bq_ff, bq_tt, bq_tf, bq_ft])
      | some a =>
        rw [hx] at hpa k1 k2
        obtain ⟨c, hc⟩ : ∃ c, t.putP u p = some c := Option.isSome_iff_exists.1 (by simpa using hpa)
        rw [hc] at k3 k4
        have ha := atP_TOk ht hx
        have hct := putP_TOk hu ht hc
        have na := atP_count hx
        have nc := Term.putP_count hc
        have k5 := s_r06_Same a ha a
        have k6 := s_r06_Same c hct c
        have k7 := s_term_Put a (by omega) p c (by omega) (by omega)
        have k8 := s_term_At c p (by omega) (by omega)
        have k9 := s_r06_Same t ht t
        have k10 := s_r06_Same u hu u
        rw [Term.put_back hc hx] at k7
        rw [Term.atP_put hc] at k8
        rw [bq_s] at k5 k6 k9 k10
        simp only [tupA] at k1 k2 k3 k4 k7 k8
        (rw [r_law06_TermPaths (Nat.le_of_ble_eq_true rfl), F_law06_TermPaths]; simp (disch := omega) only [eqs, eqL, ↓gc_len, seval, -List.reduceReplicate, reduceCtorEq, omap, depth, pcall, pureR, freezeFor, freezeAll, tupR, resV, purR, enterTm, number, gcOk, rangeEnd, mkTup, allP, eqM, bsl_2t, blist_2t, q_law06_light, hl, q_law06_lives, hv, List.length_map, c1, q_term_At, k1, q_r06_At, k2, q_term_Put, k3, q_r06_Put, k4, q_r06_Same, k5, k6, k7, k8, k9, k10, bq_ff, bq_tt, bq_tf, bq_ft])
end S
end Go.AE
/- The law of lesser subterms. --M-- -/
namespace Go.AE.S
open Go Go.AE
set_option linter.unusedSimpArgs false
set_option linter.unusedVariables false
variable {τ : Tm} {σ : Store} {rd : Option Nat}
theorem lt_count {v a : Term} (h : v.cmpT a = -1) : v.count ≤ a.count := by
  rw [Term.cmpT_eq] at h
  simp only [orI_cons] at h
  unfold or2 at h
  by_cases h0 : cmpI (v.count : Int) a.count = 0
  · have := z_I h0; omega
  · rw [if_neg h0] at h
    unfold cmpI at h
    split at h
    · omega
    · split at h <;> omega
theorem self_0 (t : Term) : t.cmpT t = 0 := by
  have := neg_T t t
  omega
theorem set_less {v a : Term} (h : v.cmpT a = -1) : ∀ (l : List Term) (j : Nat), l[j]? = some a → Term.cmpsT (l.set j v) l = -1
  | [], j, ha => by simp at ha
  | x :: l, 0, ha => by
    simp at ha
    subst ha
    rw [List.set_cons_zero, cmpsT_cons, h]
    rfl
  | x :: l, j + 1, ha => by
    simp only [List.getElem?_cons_succ] at ha
    rw [List.set_cons_succ, cmpsT_cons, self_0, set_less h l j ha]
    rfl
theorem I_self (a : Int) : cmpI a a = 0 := by have := neg_I a a; omega
theorem put_less {u : Term} : ∀ {p : List Int} {t c a : Term}, t.putP u p = some c → t.atP p = some a → u.cmpT a = -1 → c.cmpT t = -1
  | [], t, c, a, h, hx, hl => by
    simp only [Term.putP, Option.some.injEq] at h
    simp only [Term.atP, Option.some.injEq] at hx
    subst h; subst hx
    exact hl
  | i :: r, t, c, x, h, hx, hl => by
    obtain ⟨j, a, v, rfl, ha, hv, rfl⟩ := Term.putP_some h
    rw [Term.atP_of ha] at hx
    have ih := put_less hv hx hl
    have hcv := lt_count ih
    have h2 := Term.counts_set t.args j a v ha
    have h3 := Term.count_eq t
    have h4 := Term.count_eq (.mk t.op t.w t.v t.name (t.args.set j v))
    have h5 : (Term.mk t.op t.w t.v t.name (t.args.set j v)).args = t.args.set j v := rfl
    rw [h5] at h4
    rw [Term.cmpT_eq]
    simp only [orI_cons]
    have e1 : (Term.mk t.op t.w t.v t.name (t.args.set j v)).op = t.op := rfl
    have e2 : (Term.mk t.op t.w t.v t.name (t.args.set j v)).w = t.w := rfl
    have e3 : (Term.mk t.op t.w t.v t.name (t.args.set j v)).v = t.v := rfl
    have e4 : (Term.mk t.op t.w t.v t.name (t.args.set j v)).name = t.name := rfl
    rw [h5, e1, e2, e3, e4, I_self, I_self, I_self, str_eq, set_less ih t.args j ha]
    by_cases hc : (Term.mk t.op t.w t.v t.name (t.args.set j v)).count = t.count
    · rw [hc, I_self]; rfl
    · have : cmpI ((Term.mk t.op t.w t.v t.name (t.args.set j v)).count : Int) t.count = -1 := by
        unfold cmpI
        split
        · rfl
        · rename_i h6
          omega
      rw [this]; rfl
set_option maxHeartbeats 8000000 in
theorem p_TermLess (t u : Term) (p : List Int) (ht : TOk t) (hu : TOk u) : R P f_law06_TermLess [.agg t.row, .agg u.row, .lst (p.map irow)] = some (.bool true) := by
  have hl := s_light [t, u] (by simp) (fun x hx => by
    rcases List.mem_cons.1 hx with rfl | hx
    · exact ht
    · rcases List.mem_cons.1 hx with rfl | hx
      · exact hu
      · simp at hx)
  simp only [List.map_cons, List.map_nil] at hl
  have hv := s_l06
  cases hq : [t, u].all lightB with
  | false =>
    rw [hq] at hl
    (rw [r_law06_TermLess (Nat.le_of_ble_eq_true rfl), F_law06_TermLess]; simp (disch := omega) only [eqs, eqL, ↓gc_len, seval, -List.reduceReplicate, reduceCtorEq, omap, depth, pcall, pureR, freezeFor, freezeAll, tupR, resV, purR, enterTm, number, gcOk, rangeEnd, mkTup, allP, eqM, bsl_2t, blist_2t, q_law06_light, hl, q_law06_lives, hv])
  | true =>
    rw [hq] at hl
    have hcnt : ∀ x ∈ [t, u], x.count ≤ 200 := fun x hx => by
      have := of_decide_eq_true (List.all_eq_true.1 hq x hx)
      omega
    have nt := hcnt t (by simp)
    have nu := hcnt u (by simp)
    rcases Classical.propComplete ((p.length : Int) > 60) with c1 | c1
    · (rw [r_law06_TermLess (Nat.le_of_ble_eq_true rfl), F_law06_TermLess]; simp (disch := omega) only [eqs, eqL, ↓gc_len, seval, -List.reduceReplicate, reduceCtorEq, omap, depth, pcall, pureR, freezeFor, freezeAll, tupR, resV, purR, enterTm, number, gcOk, rangeEnd, mkTup, allP, eqM, bsl_2t, blist_2t, q_law06_light, hl, q_law06_lives, hv, List.length_map, c1])
    · have hpl : p.length ≤ 60 := by have := of_eq_false c1; omega
      have k2 := s_r06_At t p (by omega)
      have k3 := s_term_Put u (by omega) p t (by omega) (by omega)
      have hpa := put_at u p t
      cases hx : t.atP p with
      | none =>
        rw [hx] at k2
        simp only [tupA] at k2
        (rw [r_law06_TermLess (Nat.le_of_ble_eq_true rfl), F_law06_TermLess]; simp (disch := omega) only [eqs, eqL, ↓gc_len, seval, -List.reduceReplicate, reduceCtorEq, omap, depth, pcall, pureR, freezeFor, freezeAll, tupR, resV, purR, enterTm, number, gcOk, rangeEnd, mkTup, allP, eqM, bsl_2t, blist_2t, q_law06_light, hl, q_law06_lives, hv, List.length_map, c1, q_r06_At, k2, bq_ff, bq_tt, bq_tf, bq_ft])
      | some a =>
        rw [hx] at hpa k2
        obtain ⟨c, hc⟩ : ∃ c, t.putP u p = some c := Option.isSome_iff_exists.1 (by simpa using hpa)
        rw [hc] at k3
        have na := atP_count hx
        have nc := Term.putP_count hc
        have k4 := s_r06_Compare u a (by omega) (by omega)
        have k5 := s_term_Compare c t (by omega) (by omega)
        have k6 := s_term_Compare t c (by omega) (by omega)
        simp only [tupA] at k2 k3
        rcases R3_T u a with h | h | h
        · have hlt := put_less hc hx h
          have hgt : t.cmpT c = 1 := by have := neg_T t c; omega
          rw [h] at k4
          rw [hlt] at k5
          rw [hgt] at k6
          (rw [r_law06_TermLess (Nat.le_of_ble_eq_true rfl), F_law06_TermLess]; simp (disch := omega) only [eqs, eqL, ↓gc_len, seval, -List.reduceReplicate, reduceCtorEq, omap, depth, pcall, pureR, freezeFor, freezeAll, tupR, resV, purR, enterTm, number, gcOk, rangeEnd, mkTup, allP, eqM, bsl_2t, blist_2t, q_law06_light, hl, q_law06_lives, hv, List.length_map, c1, q_r06_At, k2, q_term_Put, k3, q_r06_Compare, k4, q_term_Compare, k5, k6, bq_ff, bq_tt, bq_tf, bq_ft, wn_1, wn_p, wn_0])
        · rw [h] at k4
          (rw [r_law06_TermLess (Nat.le_of_ble_eq_true rfl), F_law06_TermLess]; simp (disch := omega) only [eqs, eqL, ↓gc_len, seval, -List.reduceReplicate, reduceCtorEq, omap, depth, pcall, pureR, freezeFor, freezeAll, tupR, resV, purR, enterTm, number, gcOk, rangeEnd, mkTup, allP, eqM, bsl_2t, blist_2t, q_law06_light, hl, q_law06_lives, hv, List.length_map, c1, q_r06_At, k2, q_term_Put, k3, q_r06_Compare, k4, bq_ff, bq_tt, bq_tf, bq_ft, wn_1, wn_p, wn_0])
        · rw [h] at k4
          (rw [r_law06_TermLess (Nat.le_of_ble_eq_true rfl), F_law06_TermLess]; simp (disch := omega) only [eqs, eqL, ↓gc_len, seval, -List.reduceReplicate, reduceCtorEq, omap, depth, pcall, pureR, freezeFor, freezeAll, tupR, resV, purR, enterTm, number, gcOk, rangeEnd, mkTup, allP, eqM, bsl_2t, blist_2t, q_law06_light, hl, q_law06_lives, hv, List.length_map, c1, q_r06_At, k2, q_term_Put, k3, q_r06_Compare, k4, bq_ff, bq_tt, bq_tf, bq_ft, wn_1, wn_p, wn_0])
end Go.AE.S
