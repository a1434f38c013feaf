/- The reference's bound and Bits. --M-- -/
import Derived.Test.YtkdaonhccijffaaGreatD7
import Derived.Test.YtkdaonhccijffaaGreatD6
namespace Go.AE.S
open Go Go.AE
set_option linter.unusedSimpArgs false
set_option linter.unusedVariables false
variable {τ : Tm} {σ : Store} {rd : Option Nat}
/-- An element that is like one before it. -/
def dupQ {α : Type} (q : α → α → Bool) (p : List α) : List α → Bool
  | [] => false
  | u :: r => p.any (q u) || dupQ q (p ++ [u]) r
theorem fold_dup {α : Type} (q : α → α → Bool) (l : List α) : ∀ (r p : List α), l = p ++ r → foldE (S := Unit) (T := Unit) (fun i _ u => if (l.take i).any (q u) = true then .inr () else .inl ()) p.length () r = if dupQ q p r = true then .inr () else .inl ()
  | [], p, h => rfl
  | u :: r, p, h => by
    have ht : l.take p.length = p := by rw [h]; simp
    by_cases hp : p.any (q u) = true
    · have ho : dupQ q p (u :: r) = true := by simp only [dupQ, hp, Bool.true_or]
      rw [if_pos ho]
      simp only [foldE, ht, hp, if_true]
    · have ho : dupQ q p (u :: r) = dupQ q (p ++ [u]) r := by simp only [dupQ, Bool.eq_false_iff.2 hp, Bool.false_or]
      rw [ho]
      have ih := fold_dup q l r (p ++ [u]) (by rw [h]; simp)
      rw [List.length_append] at ih
      simp only [foldE, ht, hp]
      exact ih
def sameN (u a : V2) : Bool := decide (u.name = a.name)
theorem vr_g0 {v : V2} : (vrow v)[0]? = some (.str v.name) := rfl
theorem vr_g1 {v : V2} : (vrow v)[1]? = some (.int .i64 v.w) := rfl
theorem vr_f0 {v : V2} : fadrV 0 (.p (.ptr (vrow v) 0)) = some (.p (.ptr (vrow v) 0)) := rfl
theorem vr_f1 {v : V2} : fadrV 1 (.p (.ptr (vrow v) 0)) = some (.p (.ptr (vrow v) 1)) := rfl
theorem vr_len (v : V2) : (vrow v).length = 2 := rfl
theorem vr_ld {v : V2} : loadV σ 2 true (.p (.ptr (vrow v) 0)) = some (.p (.agg (vrow v))) := rfl
abbrev e_b1 (t : Term) (l : List V2) (i k : Int) : List (Nat × AV) := [(1, .p (.lst (l.map vrow))), (2, .p (.ptr t.row 0)), (5, .p (.int .i64 i)), (6, .p (.int .i64 k))]
abbrev e_b0 (t : Term) (l : List V2) (i : Int) : List (Nat × AV) := [(1, .p (.lst (l.map vrow))), (2, .p (.ptr t.row 0)), (5, .p (.int .i64 i))]
set_option maxHeartbeats 4000000 in
theorem l1_bound (t : Term) (l : List V2) (i : Nat) (u : V2) (hu : l[i]? = some u) (hl : l.length ≤ 40) : if (l.take i).any (sameN u) = true then ∃ r, loopAt P L1_r08_bound (e_b1 t l i 0) [] 61 none = some r ∧ ret1 4 (.bool false) [] r else loopAt P L1_r08_bound (e_b1 t l i 0) [] 61 none = back P [1, 2, 5, 6] B1_r08_bound 0 (exec P B1_r08_bound ⟨tm (e_b1 t l i i), [], 61, none⟩) := by
  have hil := (List.getElem?_eq_some_iff.1 hu).1
  have htl : (l.take i).length = i := by rw [List.length_take]; omega
  have h := loop_to (P := P) (nt := 61) (lv := [1, 2, 5, 6]) (b := B1_r08_bound) (rd := none) (as := l.take i) (fun k (_ : Unit) => e_b1 t l i k) (fun _ => []) (fun _ _ b => if sameN u b = true then .inr () else .inl ()) (fun (_ : Unit) => ret1 4 (.bool false) []) (fun _ _ => True)
    (fun k b s hb hk hs => by
      refine ⟨fun _ _ => trivial, ?_⟩
      rw [htl] at hk
      have hlt : ((k : Int) < i) = True := by simpa using hk
      rw [List.getElem?_take] at hb
      rw [if_pos hk] at hb
      have hui := fun σ => v_iadr (k := .i64) (es := 2) (σ := σ) (map_get (f := vrow) hu) (vr_len u)
      have hbi := fun σ => v_iadr (k := .i64) (es := 2) (σ := σ) (map_get (f := vrow) hb) (vr_len b)
      unfold sameN
      rcases Classical.propComplete (u.name = b.name) with h1 | h1
      · simp only [B1_r08_bound, h1]
        simp (disch := omega) only [eqs, eqL, ↓gc_len, seval, -List.reduceReplicate, reduceCtorEq, omap, depth, pcall, pureR, freezeFor, freezeAll, tupR, resV, purR, enterTm, number, gcOk, rangeEnd, mkTup, allP, eqM, hlt, hui, hbi, vr_f0, vr_g0, h1, e_b1, ret1]
      · simp only [B1_r08_bound, h1]
        simp (disch := omega) only [eqs, eqL, ↓gc_len, seval, -List.reduceReplicate, reduceCtorEq, omap, depth, pcall, pureR, freezeFor, freezeAll, tupR, resV, purR, enterTm, number, gcOk, rangeEnd, mkTup, allP, eqM, hlt, hui, hbi, vr_f0, vr_g0, h1, e_b1, ret1]) (fun i s => rfl) () trivial
  rw [fold_any, htl] at h
  cases hb : (l.take i).any (sameN u) with
  | true => rw [hb, if_pos rfl] at h; rw [if_pos rfl]; exact h
  | false => rw [hb, if_neg (by simp)] at h; rw [if_neg (by simp)]; exact h.2
set_option maxHeartbeats 4000000 in
theorem l0_bound (t : Term) (l : List V2) (hl : l.length ≤ 40) : if dupQ sameN [] l = true then ∃ r, loopAt P L0_r08_bound (e_b0 t l 0) [] 61 none = some r ∧ ret1 4 (.bool false) [] r else loopAt P L0_r08_bound (e_b0 t l 0) [] 61 none = back P [1, 2, 5] B0_r08_bound 0 (exec P B0_r08_bound ⟨tm (e_b0 t l l.length), [], 61, none⟩) := by
  have h := loop_to (P := P) (nt := 61) (lv := [1, 2, 5]) (b := B0_r08_bound) (rd := none) (as := l) (fun k (_ : Unit) => e_b0 t l k) (fun _ => []) (fun i _ u => if (l.take i).any (sameN u) = true then .inr () else .inl ()) (fun (_ : Unit) => ret1 4 (.bool false) []) (fun _ _ => True)
    (fun k b s hb hk hs => by
      refine ⟨fun _ _ => trivial, ?_⟩
      have hlt : ((k : Int) < l.length) = True := by simpa using hk
      have hi := l1_bound t l k b hb hl
      cases ha : (l.take k).any (sameN b) with
      | true =>
        rw [ha, if_pos rfl] at hi
        obtain ⟨⟨e', τ', σ', nt', rd'⟩, g1, g2, g3, g4⟩ := hi
        simp only at g2 g3 g4
        subst g2; subst g4
        simp only [e_b1] at g1
        simp only [B0_r08_bound, if_true]
        simp (disch := omega) only [eqs, eqL, ↓gc_len, seval, -List.reduceReplicate, reduceCtorEq, omap, depth, pcall, pureR, freezeFor, freezeAll, tupR, resV, purR, enterTm, number, gcOk, rangeEnd, mkTup, allP, eqM, hlt, List.length_map, e_b0, k1_r08_bound, g1, g3, ret1]
      | false =>
        rw [ha, if_neg (by simp)] at hi
        simp only [e_b1] at hi
        simp only [B0_r08_bound, Bool.false_eq_true, if_false]
        simp (disch := omega) only [eqs, eqL, ↓gc_len, seval, -List.reduceReplicate, reduceCtorEq, omap, depth, pcall, pureR, freezeFor, freezeAll, tupR, resV, purR, enterTm, number, gcOk, rangeEnd, mkTup, allP, eqM, hlt, List.length_map, e_b0, k1_r08_bound, hi, B1_r08_bound, Int.lt_irrefl]) (fun i s => rfl) () trivial
  have hf := fold_dup sameN l l [] rfl
  rw [List.length_nil] at hf
  rw [hf] at h
  cases hb : dupQ sameN [] l with
  | true => rw [hb, if_pos rfl] at h; rw [if_pos rfl]; exact h
  | false => rw [hb, if_neg (by simp)] at h; rw [if_neg (by simp)]; exact h.2
def eqV (a b : V2) : Bool := decide (a.name = b.name) && decide (a.w = b.w)
theorem v_eqV {a b : V2} : eqAV false [.str, .int] (.p (.agg (vrow a))) (.p (.agg (vrow b))) = some (.p (.bool (eqV a b))) := by
  unfold eqV
  simp only [eqAV, vrow, eqCells, eq_str, Option.bind_some]
  by_cases h1 : a.name = b.name <;> by_cases h2 : a.w = b.w <;> simp [h1, h2, eqLeaf]
abbrev e_b3 (l V : List V2) (i : Int) (h : Bool) (k : Int) : List (Nat × AV) := [(1, .p (.lst (l.map vrow))), (7, .p (.lst (V.map vrow))), (8, .p (.int .i64 i)), (9, .p (.bool h)), (10, .p (.int .i64 k))]
theorem fold_orQ {α : Type} (q : α → Bool) : ∀ (l : List α) (i : Nat) (s : Bool), foldE (T := Empty) (fun _ s a => .inl (s || q a)) i s l = .inl (s || l.any q)
  | [], i, s => by simp [foldE]
  | a :: l, i, s => by
    simp only [foldE, fold_orQ q l, List.any_cons, Bool.or_assoc]
set_option maxHeartbeats 4000000 in
theorem l3_bound (l V : List V2) (i : Nat) (u : V2) (hu : V[i]? = some u) (hl : l.length ≤ 40) : loopAt P L3_r08_bound (e_b3 l V i false 0) [] 61 none = back P [1, 7, 8, 9, 10] B3_r08_bound 0 (exec P B3_r08_bound ⟨tm (e_b3 l V i (l.any fun a => eqV a u) l.length), [], 61, none⟩) := by
  obtain ⟨_, h⟩ := loop_run (P := P) (nt := 61) (lv := [1, 7, 8, 9, 10]) (b := B3_r08_bound) (rd := none) (as := l) (fun k (h : Bool) => e_b3 l V i h k) (fun _ => []) (fun _ s a => s || eqV a u) (fun _ _ => True)
    (fun k b s hb hk hs => by
      refine ⟨trivial, ?_⟩
      have hlt : ((k : Int) < l.length) = True := by simpa using hk
      have hui := fun σ => v_iadr (k := .i64) (es := 2) (σ := σ) (map_get (f := vrow) hu) (vr_len u)
      have hbi := fun σ => v_iadr (k := .i64) (es := 2) (σ := σ) (map_get (f := vrow) hb) (vr_len b)
      cases s with
      | true =>
        simp only [B3_r08_bound]
        simp (disch := omega) only [eqs, eqL, ↓gc_len, seval, -List.reduceReplicate, reduceCtorEq, omap, depth, pcall, pureR, freezeFor, freezeAll, tupR, resV, purR, enterTm, number, gcOk, rangeEnd, mkTup, allP, eqM, hlt, List.length_map, hui, hbi, vr_ld, v_eqV, e_b3, Bool.true_or]
      | false =>
        simp only [B3_r08_bound]
        simp (disch := omega) only [eqs, eqL, ↓gc_len, seval, -List.reduceReplicate, reduceCtorEq, omap, depth, pcall, pureR, freezeFor, freezeAll, tupR, resV, purR, enterTm, number, gcOk, rangeEnd, mkTup, allP, eqM, hlt, List.length_map, hui, hbi, vr_ld, v_eqV, e_b3, Bool.false_or]) (fun i s => rfl) false trivial _ (fold_orQ (fun a => eqV a u) l 0 false)
  rw [Bool.false_or] at h
  exact h
abbrev e_b2 (l V : List V2) (i : Int) : List (Nat × AV) := [(1, .p (.lst (l.map vrow))), (7, .p (.lst (V.map vrow))), (8, .p (.int .i64 i))]
set_option maxHeartbeats 4000000 in
theorem l2_bound (l V : List V2) (hV : V.length ≤ 1000000) (hl : l.length ≤ 40) : if V.any (fun u => !(l.any fun a => eqV a u)) = true then ∃ r, loopAt P L2_r08_bound (e_b2 l V 0) [] 61 none = some r ∧ ret1 4 (.bool false) [] r else loopAt P L2_r08_bound (e_b2 l V 0) [] 61 none = back P [1, 7, 8] B2_r08_bound 0 (exec P B2_r08_bound ⟨tm (e_b2 l V V.length), [], 61, none⟩) := by
  have h := loop_to (P := P) (nt := 61) (lv := [1, 7, 8]) (b := B2_r08_bound) (rd := none) (as := V) (fun k (_ : Unit) => e_b2 l V k) (fun _ => []) (fun i _ u => if (fun u => !(l.any fun a => eqV a u)) u = true then .inr () else .inl ()) (fun (_ : Unit) => ret1 4 (.bool false) []) (fun _ _ => True)
    (fun k b s hb hk hs => by
      refine ⟨fun _ _ => trivial, ?_⟩
      have hlt : ((k : Int) < V.length) = True := by simpa using hk
      have hi := l3_bound l V k b hb hl
      simp only [e_b3] at hi
      cases ha : l.any fun a => eqV a b with
      | true =>
        rw [ha] at hi
        simp only [B2_r08_bound]
        simp (disch := omega) only [eqs, eqL, ↓gc_len, seval, -List.reduceReplicate, reduceCtorEq, omap, depth, pcall, pureR, freezeFor, freezeAll, tupR, resV, purR, enterTm, number, gcOk, rangeEnd, mkTup, allP, eqM, hlt, List.length_map, e_b2, k3_r08_bound, hi, B3_r08_bound, Int.lt_irrefl, ha, Bool.not_true, Bool.false_eq_true, if_false]
      | false =>
        rw [ha] at hi
        simp only [B2_r08_bound]
        simp (disch := omega) only [eqs, eqL, ↓gc_len, seval, -List.reduceReplicate, reduceCtorEq, omap, depth, pcall, pureR, freezeFor, freezeAll, tupR, resV, purR, enterTm, number, gcOk, rangeEnd, mkTup, allP, eqM, hlt, List.length_map, e_b2, k3_r08_bound, hi, B3_r08_bound, Int.lt_irrefl, ha, Bool.not_false, if_true, ret1]) (fun i s => rfl) () trivial
  rw [fold_any] at h
  cases hb : V.any (fun u => !(l.any fun a => eqV a u)) with
  | true => rw [hb, if_pos rfl] at h; rw [if_pos rfl]; exact h
  | false => rw [hb, if_neg (by simp)] at h; rw [if_neg (by simp)]; exact h.2
def boundV (t : Term) (l : List V2) : Bool := !dupQ sameN [] l && !(varsT t).any (fun u => !(l.any fun a => eqV a u))
set_option maxHeartbeats 4000000 in
theorem r_bound (t : Term) (hc : t.count ≤ 1000000) (l : List V2) (hl : l.length ≤ 40) : R P f_r08_bound [.agg t.row, .lst (l.map vrow)] = some (.bool (boundV t l)) := by
  have hv := s_r06_Vars t hc
  have hV := vars_len t
  have h0 := l0_bound t l hl
  have h2 := l2_bound l (varsT t) (by omega) hl
  unfold boundV
  simp only [e_b0] at h0
  simp only [e_b2] at h2
  generalize varsT t = V at *
  cases hd : dupQ sameN [] l with
  | true =>
    rw [hd, if_pos rfl] at h0
    obtain ⟨⟨e', τ', σ', nt', rd'⟩, g1, g2, g3, g4⟩ := h0
    simp only at g2 g3 g4
    subst g2; subst g4
    (rw [r_r08_bound (Nat.le_of_ble_eq_true rfl), F_r08_bound]; simp (disch := omega) only [eqs, eqL, ↓gc_len, seval, -List.reduceReplicate, reduceCtorEq, omap, depth, pcall, pureR, freezeFor, freezeAll, tupR, resV, purR, enterTm, number, gcOk, rangeEnd, mkTup, allP, eqM, k0_r08_bound, g1, g3])
    rfl
  | false =>
    rw [hd, if_neg (by simp)] at h0
    cases ha : V.any (fun u => !(l.any fun a => eqV a u)) with
    | true =>
      rw [ha, if_pos rfl] at h2
      obtain ⟨⟨e', τ', σ', nt', rd'⟩, g1, g2, g3, g4⟩ := h2
      simp only at g2 g3 g4
      subst g2; subst g4
      (rw [r_r08_bound (Nat.le_of_ble_eq_true rfl), F_r08_bound]; simp (disch := omega) only [eqs, eqL, ↓gc_len, seval, -List.reduceReplicate, reduceCtorEq, omap, depth, pcall, pureR, freezeFor, freezeAll, tupR, resV, purR, enterTm, number, gcOk, rangeEnd, mkTup, allP, eqM, k0_r08_bound, h0, B0_r08_bound, Int.lt_irrefl, List.length_map, q_r06_Vars, hv, k2_r08_bound, g1, g3])
    | false =>
      rw [ha, if_neg (by simp)] at h2
      (rw [r_r08_bound (Nat.le_of_ble_eq_true rfl), F_r08_bound]; simp (disch := omega) only [eqs, eqL, ↓gc_len, seval, -List.reduceReplicate, reduceCtorEq, omap, depth, pcall, pureR, freezeFor, freezeAll, tupR, resV, purR, enterTm, number, gcOk, rangeEnd, mkTup, allP, eqM, k0_r08_bound, h0, B0_r08_bound, Int.lt_irrefl, List.length_map, q_r06_Vars, hv, k2_r08_bound, h2, B2_r08_bound])
end Go.AE.S
/- The reference's Bits and Tabled. --M-- -/
namespace Go.AE.S
open Go Go.AE
set_option linter.unusedSimpArgs false
set_option linter.unusedVariables false
variable {τ : Tm} {σ : Store} {rd : Option Nat}
def bitsN (n : Int) : List V2 → Int
  | [] => n
  | v :: r => if n ≤ 16 then bitsN (n + v.w) r else n
def bitsF (_ : Nat) (n : Int) (v : V2) : Int ⊕ Int := if n ≤ 16 then .inl (n + v.w) else .inr n
theorem fold_bits : ∀ (l : List V2) (i : Nat) (n : Int), foldE bitsF i n l = .inl (bitsN n l) ∨ foldE bitsF i n l = .inr (bitsN n l)
  | [], i, n => .inl rfl
  | v :: l, i, n => by
    by_cases h : n ≤ 16
    · have := fold_bits l (i + 1) (n + v.w)
      simp only [foldE, bitsF, bitsN, h, if_true]
      exact this
    · refine .inr ?_
      simp only [foldE, bitsF, bitsN, h, if_false]
def okV2 (v : V2) : Prop := 1 ≤ v.w ∧ v.w ≤ 64
abbrev e_bt (l : List V2) (n i : Int) : List (Nat × AV) := [(0, .p (.lst (l.map vrow))), (3, .p (.int .i64 n)), (4, .p (.int .i64 i))]
def outBt (n : Int) (r : Ex × St) : Prop := r.1 = .exit 0 ∧ r.2.τ.get 3 = .p (.int .i64 n) ∧ r.2.σ = [] ∧ r.2.nt = 24
def bitsV (l : List V2) : Int := min (bitsN 0 l) 17
set_option maxHeartbeats 4000000 in
theorem r_Bits (l : List V2) (hw : ∀ v ∈ l, okV2 v) (hl : l.length ≤ 40) : R P f_r08_Bits [.lst (l.map vrow)] = some (.int .i64 (bitsV l)) := by
  have h := loop_to (P := P) (nt := 24) (lv := [0, 3, 4]) (b := B0_r08_Bits) (rd := none) (as := l) (fun i (n : Int) => e_bt l n i) (fun _ => []) bitsF outBt (fun _ n => 0 ≤ n ∧ n ≤ 80)
    (fun i v n hv hi hs => by
      have hlt : ((i : Int) < l.length) = True := by simpa using hi
      have hx := fun σ => v_iadr (k := .i64) (es := 2) (σ := σ) (map_get (f := vrow) hv) (vr_len v)
      have hok := hw v (List.mem_of_getElem? hv)
      unfold okV2 at hok
      obtain ⟨n0, n1⟩ := hs
      by_cases h : n ≤ 16
      · have e1 : (n ≤ 16) = True := by simp [h]
        refine ⟨fun s' he => ?_, ?_⟩
        · simp only [bitsF, h, if_true, Sum.inl.injEq] at he
          omega
        · have hwr : IntKind.i64.wrap (n + v.w) = n + v.w := IntWalk.i64_in _ (by omega)
          simp only [B0_r08_Bits, bitsF, h, if_true]
          simp (disch := omega) only [eqs, eqL, ↓gc_len, seval, -List.reduceReplicate, reduceCtorEq, omap, depth, pcall, pureR, freezeFor, freezeAll, tupR, resV, purR, enterTm, number, gcOk, rangeEnd, mkTup, allP, eqM, hlt, hx, List.length_map, vr_f1, vr_g1, e1, hwr, e_bt]
      · have e1 : (n ≤ 16) = False := by simp [h]
        refine ⟨fun s' he => ?_, ?_⟩
        · simp only [bitsF, h, if_false] at he
          cases he
        · simp only [B0_r08_Bits, bitsF, h, if_false]
          simp (disch := omega) only [eqs, eqL, ↓gc_len, seval, -List.reduceReplicate, reduceCtorEq, omap, depth, pcall, pureR, freezeFor, freezeAll, tupR, resV, purR, enterTm, number, gcOk, rangeEnd, mkTup, allP, eqM, hlt, hx, List.length_map, e1, e_bt, outBt]) (fun i s => rfl) 0 (by omega)
  unfold bitsV
  rcases fold_bits l 0 0 with hf | hf
  · rw [hf] at h
    obtain ⟨_, h⟩ := h
    generalize bitsN 0 l = n at *
    have h' : loopAt P L0_r08_Bits (e_bt l 0 0) [] 24 none = _ := h
    simp only [e_bt] at h'
    (rw [r_r08_Bits (Nat.le_of_ble_eq_true rfl), F_r08_Bits]; simp (disch := omega) only [eqs, eqL, ↓gc_len, seval, -List.reduceReplicate, reduceCtorEq, omap, depth, pcall, pureR, freezeFor, freezeAll, tupR, resV, purR, enterTm, number, gcOk, rangeEnd, mkTup, allP, eqM, k0_r08_Bits, h', B0_r08_Bits, Int.lt_irrefl, List.length_map])
  · rw [hf] at h
    generalize bitsN 0 l = n at *
    obtain ⟨⟨e', τ', σ', nt', rd'⟩, g1, g2, g3, g4, g5⟩ := h
    simp only at g2 g3 g4 g5
    subst g2; subst g4; subst g5
    have h' : loopAt P L0_r08_Bits (e_bt l 0 0) [] 24 none = _ := g1
    simp only [e_bt] at h'
    (rw [r_r08_Bits (Nat.le_of_ble_eq_true rfl), F_r08_Bits]; simp (disch := omega) only [eqs, eqL, ↓gc_len, seval, -List.reduceReplicate, reduceCtorEq, omap, depth, pcall, pureR, freezeFor, freezeAll, tupR, resV, purR, enterTm, number, gcOk, rangeEnd, mkTup, allP, eqM, k0_r08_Bits, h', g3])
def badW (v : V2) : Bool := decide (v.w < 1) || decide (64 < v.w)
theorem badW_no {l : List V2} (h : l.any badW = false) : ∀ v ∈ l, okV2 v := by
  intro v hv
  have := List.any_eq_false.1 h v hv
  simp only [badW, Bool.or_eq_true, decide_eq_true_eq] at this
  unfold okV2
  omega
abbrev e_td (l : List V2) (i : Int) : List (Nat × AV) := [(1, .p (.lst (l.map vrow))), (6, .p (.int .i64 i))]
set_option maxHeartbeats 4000000 in
theorem l0_Tabled (l : List V2) (hl : l.length ≤ 40) : if l.any badW = true then ∃ r, loopAt P L0_r08_Tabled (e_td l 0) [] 39 none = some r ∧ ret1 4 (.int .i64 3) [] r else loopAt P L0_r08_Tabled (e_td l 0) [] 39 none = back P [1, 6] B0_r08_Tabled 0 (exec P B0_r08_Tabled ⟨tm (e_td l l.length), [], 39, none⟩) := by
  have h := loop_to (P := P) (nt := 39) (lv := [1, 6]) (b := B0_r08_Tabled) (rd := none) (as := l) (fun k (_ : Unit) => e_td l k) (fun _ => []) (fun _ _ v => if badW v = true then .inr () else .inl ()) (fun (_ : Unit) => ret1 4 (.int .i64 3) []) (fun _ _ => True)
    (fun i v s hv hi hs => by
      refine ⟨fun _ _ => trivial, ?_⟩
      have hlt : ((i : Int) < l.length) = True := by simpa using hi
      have hx := fun σ => v_iadr (k := .i64) (es := 2) (σ := σ) (map_get (f := vrow) hv) (vr_len v)
      unfold badW
      rcases Classical.propComplete (v.w < 1) with h1 | h1
      · simp only [B0_r08_Tabled, h1]
        simp (disch := omega) only [eqs, eqL, ↓gc_len, seval, -List.reduceReplicate, reduceCtorEq, omap, depth, pcall, pureR, freezeFor, freezeAll, tupR, resV, purR, enterTm, number, gcOk, rangeEnd, mkTup, allP, eqM, hlt, hx, List.length_map, vr_f1, vr_g1, h1, Bool.true_or, Bool.false_or, if_true, if_false, Bool.false_eq_true, e_td, ret1]
      · rcases Classical.propComplete (64 < v.w) with h2 | h2
        · have h3 : (v.w > 64) = True := h2
          simp only [B0_r08_Tabled, h1, h2]
          simp (disch := omega) only [eqs, eqL, ↓gc_len, seval, -List.reduceReplicate, reduceCtorEq, omap, depth, pcall, pureR, freezeFor, freezeAll, tupR, resV, purR, enterTm, number, gcOk, rangeEnd, mkTup, allP, eqM, hlt, hx, List.length_map, vr_f1, vr_g1, h1, h2, h3, Bool.true_or, Bool.false_or, if_true, if_false, Bool.false_eq_true, e_td, ret1]
        · have h3 : (v.w > 64) = False := h2
          simp only [B0_r08_Tabled, h1, h2]
          simp (disch := omega) only [eqs, eqL, ↓gc_len, seval, -List.reduceReplicate, reduceCtorEq, omap, depth, pcall, pureR, freezeFor, freezeAll, tupR, resV, purR, enterTm, number, gcOk, rangeEnd, mkTup, allP, eqM, hlt, hx, List.length_map, vr_f1, vr_g1, h1, h2, h3, Bool.true_or, Bool.false_or, if_true, if_false, Bool.false_eq_true, e_td, ret1]) (fun i s => rfl) () trivial
  rw [fold_any] at h
  cases hb : l.any badW with
  | true => rw [hb, if_pos rfl] at h; rw [if_pos rfl]; exact h
  | false => rw [hb, if_neg (by simp)] at h; rw [if_neg (by simp)]; exact h.2
def tabE (t : Term) (l : List V2) : Int := if ¬ checkT t = 0 then checkT t else if boundV t l = false then 12 else if l.any badW = true then 3 else if 16 < bitsV l then 7 else 0
set_option maxHeartbeats 4000000 in
theorem r_Tabled (t : Term) (ht : TOk t) (hc : t.count ≤ 1000000) (l : List V2) (hl : l.length ≤ 40) : R P f_r08_Tabled [.agg t.row, .lst (l.map vrow)] = some (.int .i64 (tabE t l)) := by
  have hk := s_r06_Check t ht hc
  have hb := r_bound t hc l hl
  have h0 := l0_Tabled l hl
  simp only [e_td] at h0
  unfold tabE
  rcases Classical.propComplete (checkT t = 0) with c0 | c0
  rotate_left
  · rw [if_pos (of_eq_false c0)]
    (rw [r_r08_Tabled (Nat.le_of_ble_eq_true rfl), F_r08_Tabled]; simp (disch := omega) only [eqs, eqL, ↓gc_len, seval, -List.reduceReplicate, reduceCtorEq, omap, depth, pcall, pureR, freezeFor, freezeAll, tupR, resV, purR, enterTm, number, gcOk, rangeEnd, mkTup, allP, eqM, q_r06_Check, hk, c0])
  rw [if_neg (by simpa using of_eq_true c0)]
  cases c1 : boundV t l with
  | false =>
    rw [c1] at hb
    rw [if_pos rfl]
    (rw [r_r08_Tabled (Nat.le_of_ble_eq_true rfl), F_r08_Tabled]; simp (disch := omega) only [eqs, eqL, ↓gc_len, seval, -List.reduceReplicate, reduceCtorEq, omap, depth, pcall, pureR, freezeFor, freezeAll, tupR, resV, purR, enterTm, number, gcOk, rangeEnd, mkTup, allP, eqM, q_r06_Check, hk, c0, q_r08_bound, hb])
  | true =>
    rw [c1] at hb
    rw [if_neg (by simp)]
    cases c2 : l.any badW with
    | true =>
      rw [c2, if_pos rfl] at h0
      rw [if_pos rfl]
      obtain ⟨⟨e', τ', σ', nt', rd'⟩, g1, g2, g3, g4⟩ := h0
      simp only at g2 g3 g4
      subst g2; subst g4
      (rw [r_r08_Tabled (Nat.le_of_ble_eq_true rfl), F_r08_Tabled]; simp (disch := omega) only [eqs, eqL, ↓gc_len, seval, -List.reduceReplicate, reduceCtorEq, omap, depth, pcall, pureR, freezeFor, freezeAll, tupR, resV, purR, enterTm, number, gcOk, rangeEnd, mkTup, allP, eqM, q_r06_Check, hk, c0, q_r08_bound, hb, k0_r08_Tabled, g1, g3])
    | false =>
      rw [c2, if_neg (by simp)] at h0
      rw [if_neg (by simp)]
      have hbt := r_Bits l (badW_no c2) hl
      rcases Classical.propComplete (16 < bitsV l) with c3 | c3
      · have c4 : (bitsV l > 16) = True := c3
        rw [if_pos (of_eq_true c3)]
        (rw [r_r08_Tabled (Nat.le_of_ble_eq_true rfl), F_r08_Tabled]; simp (disch := omega) only [eqs, eqL, ↓gc_len, seval, -List.reduceReplicate, reduceCtorEq, omap, depth, pcall, pureR, freezeFor, freezeAll, tupR, resV, purR, enterTm, number, gcOk, rangeEnd, mkTup, allP, eqM, q_r06_Check, hk, c0, q_r08_bound, hb, k0_r08_Tabled, h0, B0_r08_Tabled, Int.lt_irrefl, List.length_map, q_r08_Bits, hbt, c3, c4])
      · have c4 : (bitsV l > 16) = False := c3
        rw [if_neg (of_eq_false c3)]
        (rw [r_r08_Tabled (Nat.le_of_ble_eq_true rfl), F_r08_Tabled]; simp (disch := omega) only [eqs, eqL, ↓gc_len, seval, -List.reduceReplicate, reduceCtorEq, omap, depth, pcall, pureR, freezeFor, freezeAll, tupR, resV, purR, enterTm, number, gcOk, rangeEnd, mkTup, allP, eqM, q_r06_Check, hk, c0, q_r08_bound, hb, k0_r08_Tabled, h0, B0_r08_Tabled, Int.lt_irrefl, List.length_map, q_r08_Bits, hbt, c3, c4])
end Go.AE.S
/- The reference's assignments and tables. --M-- -/
namespace Go.AE.S
open Go Go.AE
set_option linter.unusedSimpArgs false
set_option linter.unusedVariables false
variable {τ : Tm} {σ : Store} {rd : Option Nat}
def assignT : Nat → List V2 → List Bd
  | _, [] => []
  | n, v :: r => ⟨v.name, n % 2 ^ cw v.w⟩ :: assignT (n / 2 ^ v.w.toNat) r
def asF (s : List Bd × Nat) (v : V2) : List Bd × Nat := (s.1 ++ [⟨v.name, s.2 % 2 ^ cw v.w⟩], s.2 / 2 ^ v.w.toNat)
theorem asF_all : ∀ (l : List V2) (s : List Bd) (n : Nat), (l.foldl asF (s, n)).1 = s ++ assignT n l
  | [], s, n => by simp [assignT]
  | v :: l, s, n => by
    rw [List.foldl_cons]
    show (l.foldl asF (s ++ [⟨v.name, n % 2 ^ cw v.w⟩], n / 2 ^ v.w.toNat)).1 = _
    rw [asF_all l]
    simp [assignT]
abbrev e_as (l : List V2) (s : List Bd × Nat) (i : Int) : List (Nat × AV) := [(0, .p (.lst (l.map vrow))), (1, .p (.int .u64 (s.2 : Int))), (5, .sl 0 s.1.length), (6, .p (.int .i64 i))]
abbrev sAs (s : List Bd × Nat) : Store := [.pv (esOf 2 s.1) (s.1.map brow) false]
theorem bsl_b1 {n : ByteArray} {x : Int} : bsliceV σ 2 1 (fillP (List.replicate 1 [.p (.str (bs [])), .p (.int .u64 0)]).flatten [(0, 2, .p (.agg [.str n, .int .u64 x]))]) = some (.sl σ.length 1, σ ++ [.pv 2 [[.str n, .int .u64 x]] false]) := rfl
theorem src_11 {o : Obj} {a : List PV} {fr : Bool} : srcOf [o, .pv 2 [a] fr] 2 (.sl 1 1) = some (.inl [a]) := src_sl rfl rfl (.inl rfl)
set_option maxHeartbeats 4000000 in
theorem r_Assign (l : List V2) (hw : ∀ v ∈ l, okV2 v) (hl : l.length ≤ 40) (n : Nat) (hn : W n) : R P f_r08_Assign [.lst (l.map vrow), .int .u64 (n : Int)] = some (.lst ((assignT n l).map brow)) := by
  obtain ⟨_, h⟩ := loop_run (P := P) (nt := 38) (lv := [0, 1, 5, 6]) (b := B0_r08_Assign) (rd := none) (as := l) (fun i (s : List Bd × Nat) => e_as l s i) sAs (fun _ s v => asF s v) (fun i s => s.1.length = i ∧ W s.2)
    (fun i v s hv hi hs => by
      obtain ⟨s, n⟩ := s
      obtain ⟨hs1, hs2⟩ := hs
      simp only at hs1 hs2
      have hlt : ((i : Int) < l.length) = True := by simpa using hi
      have hx := fun σ => v_iadr (k := .i64) (es := 2) (σ := σ) (map_get (f := vrow) hv) (vr_len v)
      have hok := hw v (List.mem_of_getElem? hv)
      unfold okV2 at hok
      have hcut := n_rCut v.w n hs2
      have hwn : ((v.w.toNat : Nat) : Int) = v.w := Int.toNat_of_nonneg (by omega)
      have hconv : IntKind.u64.wrap v.w = v.w := IntWalk.u64_in _ (by omega)
      have hshr := n_shr (k := .u64) (a := n) (n := v.w.toNat) (by omega)
      rw [hwn] at hshr
      have hap := v_append (σ := sAs (s, n) ++ [.pv 2 [[.str v.name, .int .u64 ((n % 2 ^ cw v.w : Nat) : Int)]] false]) (b := 0) (n := s.length) (e := esOf 2 s) (es := 2) (bytes := 24) (rows := s.map brow) (new := [[.str v.name, .int .u64 ((n % 2 ^ cw v.w : Nat) : Int)]]) rfl (by simp) (esOf_or _ _ _) (by simp only [List.length_cons, List.length_nil]; omega)
      simp only [sAs, List.cons_append, List.nil_append] at hap
      refine ⟨⟨by simp [asF, hs1], Nat.lt_of_le_of_lt (Nat.div_le_self _ _) hs2⟩, ?_⟩
      simp only [B0_r08_Assign, asF]
      simp (disch := omega) only [eqs, eqL, ↓gc_len, seval, -List.reduceReplicate, reduceCtorEq, omap, depth, pcall, pureR, freezeFor, freezeAll, tupR, resV, purR, enterTm, number, gcOk, rangeEnd, mkTup, allP, eqM, hlt, hx, List.length_map, vr_f0, vr_g0, vr_f1, vr_g1, q_r01_Cut, hcut, bu_e, bsl_b1, src_11, hap, hconv, hshr, List.map_append, List.length_append, esOf_snoc, brow, e_as, sAs]) (fun i s => rfl) ([], n) ⟨rfl, hn⟩ _ (foldE_foldl asF l 0 ([], n))
  have hA := asF_all l [] n
  rw [List.nil_append] at hA
  generalize l.foldl asF ([], n) = z at *
  obtain ⟨z1, z2⟩ := z
  simp only at hA
  subst hA
  have h' : loopAt P L0_r08_Assign [(0, .p (.lst (l.map vrow))), (1, .p (.int .u64 (n : Int))), (5, .sl 0 0), (6, .p (.int .i64 0))] [.pv 0 [] false] 38 none = _ := h
  (rw [r_r08_Assign (Nat.le_of_ble_eq_true rfl), F_r08_Assign]; simp (disch := omega) only [eqs, eqL, ↓gc_len, seval, -List.reduceReplicate, reduceCtorEq, omap, depth, pcall, pureR, freezeFor, freezeAll, tupR, resV, purR, enterTm, number, gcOk, rangeEnd, mkTup, allP, eqM, k0_r08_Assign, h', B0_r08_Assign, Int.lt_irrefl, List.length_map, e_as, sAs])
theorem look_assign (n : ByteArray) : ∀ (l : List V2) (k : Nat), (lookB n (assignT k l)).isSome = l.any fun a => decide (a.name = n)
  | [], k => rfl
  | v :: l, k => by
    simp only [assignT, lookB, List.any_cons]
    by_cases h : v.name = n
    · simp [h]
    · simp only [h, if_false, decide_false, Bool.false_or]
      exact look_assign n l _
theorem bound_assign {t : Term} {l : List V2} (h : boundV t l = true) (k : Nat) : boundB (assignT k l) t = true := by
  unfold boundV at h
  rw [Bool.and_eq_true, Bool.not_eq_true', Bool.not_eq_true', List.any_eq_false] at h
  unfold boundB
  rw [List.all_eq_true]
  intro u hu
  by_cases h1 : u.op = 1
  · obtain ⟨v, hv, hn⟩ := vars_of hu h1
    have hx := h.2 v hv
    simp only [Bool.not_eq_true', Bool.not_eq_false] at hx
    obtain ⟨a, ha, he⟩ := List.any_eq_true.1 hx
    have : (lookB u.name (assignT k l)).isSome = true := by
      rw [look_assign]
      refine List.any_eq_true.2 ⟨a, ha, ?_⟩
      unfold eqV at he
      rw [Bool.and_eq_true] at he
      rw [← hn]
      exact he.1
    rw [this]
    simp
  · simp [h1]
theorem assign_W : ∀ (l : List V2) (k : Nat), ∀ b ∈ assignT k l, W b.v
  | [], k => by simp [assignT]
  | v :: l, k => by
    intro b hb
    rcases List.mem_cons.1 hb with rfl | hb
    · exact cut_lt (cw_in v.w).2 k
    · exact assign_W l _ b hb
theorem assign_len : ∀ (l : List V2) (k : Nat), (assignT k l).length = l.length
  | [], k => rfl
  | v :: l, k => by simp [assignT, assign_len l]
def tabV (t : Term) (l : List V2) (b : Nat) : List Nat := (List.range (2 ^ b)).map fun k => t.valT (envB (assignT k l))
abbrev e_tb (t : Term) (l : List V2) (s : List Nat) (i : Int) : List (Nat × AV) := [(1, .p (.lst (l.map vrow))), (2, .p (.ptr t.row 0)), (7, .sl 0 s.length), (8, .p (.int .u64 i))]
theorem tabE_zero {t : Term} {l : List V2} (h : tabE t l = 0) : checkT t = 0 ∧ boundV t l = true ∧ (∀ v ∈ l, okV2 v) ∧ bitsV l ≤ 16 := by
  unfold tabE at h
  split at h
  · contradiction
  rename_i h1
  split at h
  · cases h
  rename_i h2
  split at h
  · cases h
  rename_i h3
  split at h
  · cases h
  rename_i h4
  exact ⟨by simpa using h1, by simpa using h2, badW_no (by simpa using h3), by omega⟩
theorem bits_pos {l : List V2} (h : ∀ v ∈ l, okV2 v) : 0 ≤ bitsV l := by
  have key : ∀ (l : List V2), (∀ v ∈ l, okV2 v) → ∀ n : Int, 0 ≤ n → 0 ≤ bitsN n l := by
    intro l
    induction l with
    | nil => intro _ n hn; exact hn
    | cons v l ih =>
      intro hv n hn
      unfold bitsN
      have := hv v (by simp)
      unfold okV2 at this
      split
      · exact ih (fun a ha => hv a (by simp [ha])) _ (by omega)
      · exact hn
  have := key l h 0 (by omega)
  unfold bitsV
  omega
set_option maxHeartbeats 8000000 in
theorem r_Table (t : Term) (ht : TOk t) (hc : t.count ≤ 1000000) (l : List V2) (hl : l.length ≤ 40) (h0 : tabE t l = 0) (b : Nat) (hb : bitsV l = b) (hb8 : b ≤ 8) : R P f_r08_Table [.agg t.row, .lst (l.map vrow)] = some (.tup [.lst ((tabV t l b).map urow), .int .i64 0]) := by
  obtain ⟨c1, c2, c3, c4⟩ := tabE_zero h0
  have hT := r_Tabled t ht hc l hl
  rw [h0] at hT
  have hB := r_Bits l c3 hl
  rw [hb] at hB
  have hp : (2 : Nat) ^ b ≤ 256 := by
    have := Nat.pow_le_pow_right (show 0 < 2 by omega) hb8
    exact this
  have hconv : IntKind.u64.wrap (b : Int) = b := IntWalk.u64_in _ (by omega)
  have hshl : arithV .shl (.p (.int .u64 1)) (.p (.int .u64 (b : Int))) = some (.p (.int .u64 ((2 ^ b : Nat) : Int))) := by
    have := n_shl (k := .u64) (a := 1) (n := b) (by omega)
    rw [Nat.one_mul, Nat.mod_eq_of_lt (by omega)] at this
    exact this
  obtain ⟨_, h⟩ := loop_run (P := P) (nt := 38) (lv := [1, 2, 7, 8]) (b := B0_r08_Table) (rd := none) (as := List.range (2 ^ b)) (fun i (s : List Nat) => e_tb t l s i) sU (fun _ s k => s ++ [t.valT (envB (assignT k l))]) (fun i s => s.length = i)
    (fun i k s hk hi hs => by
      rw [List.length_range] at hi
      have hki : k = i := by
        rw [List.getElem?_range hi] at hk
        exact (Option.some.inj hk).symm
      subst hki
      have hlt : ((k : Int) < ((2 ^ b : Nat) : Int)) = True := by simp only [eq_iff_iff, iff_true]; exact Int.ofNat_lt.2 hi
      have hA := r_Assign l c3 hl k (by show k < _; omega)
      have hV := r_Value (assignT k l) (assign_W l k) (by rw [assign_len]; omega) t (check_all c1) ht hc
      unfold valP at hV
      rw [if_pos (bound_assign c2 k)] at hV
      have hwr : IntKind.u64.wrap ((k : Int) + 1) = ((k + 1 : Nat) : Int) := IntWalk.u64_in _ (by omega)
      have hap := v_append (σ := sU s ++ [.pv 1 [[.int .u64 (t.valT (envB (assignT k l)) : Int)]] false]) (b := 0) (n := s.length) (e := esOf 1 s) (es := 1) (bytes := 8) (rows := s.map urow) (new := [[.int .u64 (t.valT (envB (assignT k l)) : Int)]]) rfl (by simp) (esOf_or _ _ _) (by simp only [List.length_cons, List.length_nil]; omega)
      simp only [sU, List.cons_append, List.nil_append] at hap
      refine ⟨by simp [hs], ?_⟩
      simp only [B0_r08_Table]
      simp (disch := omega) only [eqs, eqL, ↓gc_len, seval, -List.reduceReplicate, reduceCtorEq, omap, depth, pcall, pureR, freezeFor, freezeAll, tupR, resV, purR, enterTm, number, gcOk, rangeEnd, mkTup, allP, eqM, hlt, q_r08_Bits, hB, hconv, hshl, q_r08_Assign, hA, q_r08_Value, hV, bsl_u, hwr, hap, List.map_append, List.length_append, esOf_snoc, urow, e_tb, sU]) (fun i s => rfl) [] rfl _ (fold_snoc (fun k => t.valT (envB (assignT k l))) (List.range (2 ^ b)) 0 [])
  rw [List.nil_append, List.length_range] at h
  have h' : loopAt P L0_r08_Table [(1, .p (.lst (l.map vrow))), (2, .p (.ptr t.row 0)), (7, .sl 0 0), (8, .p (.int .u64 0))] [.pv 0 [] false] 38 none = _ := h
  unfold tabV
  generalize (List.range (2 ^ b)).map (fun k => t.valT (envB (assignT k l))) = vs at *
  (rw [r_r08_Table (Nat.le_of_ble_eq_true rfl), F_r08_Table]; simp (disch := omega) only [eqs, eqL, ↓gc_len, seval, -List.reduceReplicate, reduceCtorEq, omap, depth, pcall, pureR, freezeFor, freezeAll, tupR, resV, purR, enterTm, number, gcOk, rangeEnd, mkTup, allP, eqM, q_r08_Tabled, hT, k0_r08_Table, h', B0_r08_Table, q_r08_Bits, hB, hconv, hshl, Int.lt_irrefl, List.length_map, e_tb, sU])
set_option maxHeartbeats 4000000 in
theorem r_TableE (t : Term) (ht : TOk t) (hc : t.count ≤ 1000000) (l : List V2) (hl : l.length ≤ 40) (h0 : tabE t l ≠ 0) : R P f_r08_Table [.agg t.row, .lst (l.map vrow)] = some (.tup [.lst [], .int .i64 (tabE t l)]) := by
  have hT := r_Tabled t ht hc l hl
  have h1 : (tabE t l = 0) = False := eq_false h0
  (rw [r_r08_Table (Nat.le_of_ble_eq_true rfl), F_r08_Table]; simp (disch := omega) only [eqs, eqL, ↓gc_len, seval, -List.reduceReplicate, reduceCtorEq, omap, depth, pcall, pureR, freezeFor, freezeAll, tupR, resV, purR, enterTm, number, gcOk, rangeEnd, mkTup, allP, eqM, q_r08_Tabled, hT, h1])
abbrev e_eq (a : List Nat) (i : Int) : List (Nat × AV) := [(0, .p (.lst (a.map urow))), (1, .p (.lst (a.map urow))), (5, .p (.int .i64 i))]
set_option maxHeartbeats 4000000 in
theorem r_Equal (a : List Nat) (hl : a.length ≤ 1000000) : R P f_r08_Equal [.lst (a.map urow), .lst (a.map urow)] = some (.bool true) := by
  obtain ⟨_, h⟩ := loop_run (P := P) (nt := 26) (lv := [0, 1, 5]) (b := B0_r08_Equal) (rd := none) (as := a) (fun i (_ : Unit) => e_eq a i) (fun _ => []) (fun _ s _ => s) (fun _ _ => True)
    (fun i v s hv hi hs => by
      refine ⟨trivial, ?_⟩
      have hlt : ((i : Int) < a.length) = True := by simpa using hi
      have hx := fun σ => v_iadr (k := .i64) (es := 1) (σ := σ) (map_get (f := urow) hv) (by simp [urow])
      simp only [B0_r08_Equal]
      simp (disch := omega) only [eqs, eqL, ↓gc_len, seval, -List.reduceReplicate, reduceCtorEq, omap, depth, pcall, pureR, freezeFor, freezeAll, tupR, resV, purR, enterTm, number, gcOk, rangeEnd, mkTup, allP, eqM, hlt, hx, List.length_map, urow, e_eq]) (fun i s => rfl) () trivial _ (foldE_foldl (fun s _ => s) a 0 ())
  have h' : loopAt P L0_r08_Equal (e_eq a 0) [] 26 none = _ := h
  simp only [e_eq] at h'
  (rw [r_r08_Equal (Nat.le_of_ble_eq_true rfl), F_r08_Equal]; simp (disch := omega) only [eqs, eqL, ↓gc_len, seval, -List.reduceReplicate, reduceCtorEq, omap, depth, pcall, pureR, freezeFor, freezeAll, tupR, resV, purR, enterTm, number, gcOk, rangeEnd, mkTup, allP, eqM, k0_r08_Equal, h', B0_r08_Equal, Int.lt_irrefl, List.length_map])
end Go.AE.S
