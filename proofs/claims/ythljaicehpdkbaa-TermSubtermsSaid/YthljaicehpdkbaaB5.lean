/- The reference's lists of variables. --M-- -/
import Derived.Test.YthljaicehpdkbaaB4
namespace Go.AE.S
open Go Go.AE
set_option linter.unusedSimpArgs false
set_option linter.unusedVariables false
variable {τ : Tm} {σ : Store} {rd : Option Nat}

def insF (v : V2) (s : List V2 × Bool) (a : V2) : (List V2 × Bool) ⊕ Unit :=
  if a.name = v.name then .inr () else if s.2 = false ∧ slt v.name a.name = true then .inl (s.1 ++ [v, a], true) else .inl (s.1 ++ [a], s.2)
abbrev e_ins (l : List V2) (v : V2) (s : List V2 × Bool) (i : Int) : List (Nat × AV) := [(0, .p (.lst (l.map vrow))), (3, .p (.ptr [.str v.name, .int .i64 v.w] 0)), (5, .sl 0 s.1.length), (6, .p (.bool s.2)), (7, .p (.int .i64 i))]
abbrev sJ (s : List V2 × Bool) : Store := [.pv 2 (s.1.map vrow) false]
def retI (l : List V2) (r : Ex × St) : Prop := r.1 = .ret ∧ r.2.τ.get 4 = .p (.lst (l.map vrow))
theorem ins_true (v : V2) : ∀ (l s : List V2) (i : Nat), inN l v.name = false → foldE (fun _ s a => insF v s a) i (s, true) l = .inl (s ++ l, true)
  | [], s, i, _ => by simp [foldE]
  | a :: r, s, i, h => by
    unfold inN at h
    simp only [List.any_cons, Bool.or_eq_false_iff, decide_eq_false_iff_not] at h
    have hs : insF v (s, true) a = .inl (s ++ [a], true) := by
      unfold insF
      rw [if_neg h.1, if_neg (by simp)]
    simp only [foldE, hs]
    rw [ins_true v r (s ++ [a]) (i + 1) h.2, List.append_assoc]
    rfl
theorem ins_false (v : V2) : ∀ (l s : List V2) (i : Nat), inN l v.name = false → ∃ s' d, foldE (fun _ s a => insF v s a) i (s, false) l = .inl (s', d) ∧ (if d = true then s' else s' ++ [v]) = s ++ insV l v
  | [], s, i, _ => ⟨s, false, rfl, by simp [insV]⟩
  | a :: r, s, i, h => by
    have h0 := h
    unfold inN at h
    simp only [List.any_cons, Bool.or_eq_false_iff, decide_eq_false_iff_not] at h
    cases hlt : slt v.name a.name with
    | true =>
      have hs : insF v (s, false) a = .inl (s ++ [v, a], true) := by
        unfold insF
        rw [if_neg h.1, if_pos ⟨rfl, hlt⟩]
      refine ⟨s ++ [v, a] ++ r, true, ?_, by simp [insV, h.1, hlt]⟩
      simp only [foldE, hs]
      exact ins_true v r (s ++ [v, a]) (i + 1) h.2
    | false =>
      have hs : insF v (s, false) a = .inl (s ++ [a], false) := by
        unfold insF
        rw [if_neg h.1, if_neg (by simp [hlt])]
      obtain ⟨s', d, k1, k2⟩ := ins_false v r (s ++ [a]) (i + 1) h.2
      refine ⟨s', d, ?_, ?_⟩
      · simp only [foldE, hs]; exact k1
      · rw [k2]; simp [insV, h.1, hlt]
theorem ins_has (v : V2) : ∀ (l : List V2) (s : List V2 × Bool) (i : Nat), inN l v.name = true → foldE (fun _ s a => insF v s a) i s l = .inr ()
  | [], s, i, h => by simp [inN] at h
  | a :: r, s, i, h => by
    by_cases h1 : decide (a.name = v.name) = true
    · have h1 := of_decide_eq_true h1
      have hs : insF v s a = .inr () := by unfold insF; rw [if_pos h1]
      simp only [foldE, hs]
    · have hr : inN r v.name = true := by
        unfold inN at h ⊢
        rw [List.any_cons] at h
        rcases (Bool.or_eq_true _ _).mp h with h | h
        · exact absurd h h1
        · exact h
      have h1 : ¬ a.name = v.name := by simpa using h1
      obtain ⟨s2, hs⟩ : ∃ s2, insF v s a = .inl s2 := by
        unfold insF
        rw [if_neg h1]
        split
        · exact ⟨_, rfl⟩
        · exact ⟨_, rfl⟩
      simp only [foldE, hs]
      exact ins_has v r s2 (i + 1) hr
end Go.AE.S
/- The reference's lists of variables, whole. --M-- -/
namespace Go.AE.S
open Go Go.AE
set_option linter.unusedSimpArgs false
set_option linter.unusedVariables false
variable {τ : Tm} {σ : Store} {rd : Option Nat}

def toL : Option (List V2) → List V2
  | none => []
  | some s => s
def addO (op : Int) (s : Option (List V2)) (u : Term) : Option (List V2) := if u.op = op then some (insV (toL s) ⟨u.name, u.w⟩) else s
def avO : Option (List V2) → AV
  | none => .sl 0 0
  | some s => .p (.lst (s.map vrow))
def sO : Option (List V2) → Store
  | none => [.pv 2 [] false]
  | some _ => [.pv 2 [] true]
theorem toL_addO {op : Int} {s : Option (List V2)} {u : Term} : toL (addO op s u) = addV op (toL s) u := by
  unfold addO addV
  split <;> rfl
theorem toL_foldl {op : Int} : ∀ (l : List Term) (s : Option (List V2)), toL (l.foldl (addO op) s) = l.foldl (addV op) (toL s)
  | [], s => rfl
  | a :: l, s => by simp only [List.foldl_cons]; rw [toL_foldl l, toL_addO]
theorem flat_lst {rows : List (List PV)} : PV.flat (.lst rows) = rows.isEmpty := by simp [PV.flat]
abbrev e_v1 (op : Int) (l : List Term) (i : Int) (pre : List Term) (s : Option (List V2)) (j : Int) : List (Nat × AV) := [(0, .p (.int .i64 op)), (1, .p (.lst (l.map Term.row))), (5, avO s), (6, .p (.int .i64 i)), (7, .p (.lst (pre.map Term.row))), (8, .p (.int .i64 j))]
abbrev e_v0 (op : Int) (l : List Term) (s : Option (List V2)) (i : Int) : List (Nat × AV) := [(0, .p (.int .i64 op)), (1, .p (.lst (l.map Term.row))), (5, avO s), (6, .p (.int .i64 i))]
def addP (op : Int) (s : Option (List V2)) (t : Term) : Option (List V2) := t.pre.foldl (addO op) s
theorem toL_addP {op : Int} {s : Option (List V2)} {t : Term} : toL (addP op s t) = addT op (toL s) t := toL_foldl t.pre s
theorem toL_Ps {op : Int} : ∀ (l : List Term) (s : Option (List V2)), toL (l.foldl (addP op) s) = l.foldl (addT op) (toL s)
  | [], s => rfl
  | a :: l, s => by simp only [List.foldl_cons]; rw [toL_Ps l, toL_addP]
end Go.AE.S
/- The names of patterns: the law. --M-- -/
namespace Go.AE.S
open Go Go.AE
set_option linter.unusedSimpArgs false
set_option linter.unusedVariables false
variable {τ : Tm} {σ : Store} {rd : Option Nat}

theorem eq_vrow (v : V2) : eqCells [.str, .int] [.str v.name, .int .i64 v.w] [.str v.name, .int .i64 v.w] = some true := by
  simp [eqCells, eqLeaf]
theorem t_bs2 {t u : Term} {z0 z1 z2 z3 z4 : AV} : bsliceV σ 5 2 (fillP (List.replicate 2 [z0, z1, z2, z3, z4]).flatten [(0, 5, .p (.agg t.row)), (5, 5, .p (.agg u.row))]) = some (.sl σ.length 2, σ ++ [.pv 5 [t.row, u.row] false]) := by
  rw [Term.row_eq, Term.row_eq]; rfl
theorem refs_0z {es n j : Nat} {rows : List (List PV)} {fr : Bool} {r : Store} : refs (.pv es rows fr :: r) (j + 1) (.sl 0 n) = [0] := rfl
theorem frz_0 {es : Nat} {rows : List (List PV)} {fr : Bool} {r : Store} : freezeAt (.pv es rows fr :: r) 0 = .pv es rows true :: r := rfl
theorem frz_1 {o0 : Obj} {es : Nat} {rows : List (List PV)} {fr : Bool} {r : Store} : freezeAt (o0 :: .pv es rows fr :: r) 1 = o0 :: .pv es rows true :: r := rfl
theorem refs_1z {o0 : Obj} {es n j : Nat} {rows : List (List PV)} {fr : Bool} {r : Store} : refs (o0 :: .pv es rows fr :: r) (j + 1) (.sl 1 n) = [1] := rfl
theorem refs_2z {o0 o1 : Obj} {es n j : Nat} {rows : List (List PV)} {fr : Bool} {r : Store} : refs (o0 :: o1 :: .pv es rows fr :: r) (j + 1) (.sl 2 n) = [2] := rfl
end Go.AE.S
