/- The nodes of a pattern, handed out. -/
import Derived.Test.YthljaicehpdkbaaB1
import Derived.Test.YthljaicehpdkbaaP0
namespace Go.AE.S
open Go Go.AE
set_option linter.unusedSimpArgs false
set_option linter.unusedVariables false
variable {τ : Tm} {σ : Store} {rd : Option Nat}

def argT (u : Term) : List AV := [.p (.agg u.row)]
def visF (l : Nat) (s : Store) (a : Term) : Store ⊕ Store := match rounds P l (a.pre.map argT) s with
  | some (true, s') => .inl s'
  | some (false, s') => .inr s'
  | none => .inr s
theorem fold_vis (l : Nat) : ∀ (as : List Term) (i : Nat) (s : Store) (b : Bool) (s' : Store), rounds P l ((Term.pres as).map argT) s = some (b, s') → foldE (fun _ s a => visF l s a) i s as = if b = true then .inl s' else .inr s'
  | [], i, s, b, s', h => by
    simp only [Term.pres, List.map_nil, rounds, Option.some.injEq, Prod.mk.injEq] at h
    obtain ⟨rfl, rfl⟩ := h
    rfl
  | a :: as, i, s, b, s', h => by
    simp only [Term.pres, List.map_append, rounds_append] at h
    simp only [foldE, visF]
    cases h1 : rounds P l (a.pre.map argT) s with
    | none => rw [h1] at h; cases h
    | some x =>
      obtain ⟨c, s1⟩ := x
      rw [h1] at h
      cases c with
      | true => exact fold_vis l as (i + 1) s1 b s' h
      | false =>
        simp only [roundsThen, Option.some.injEq, Prod.mk.injEq] at h
        obtain ⟨rfl, rfl⟩ := h
        rfl
abbrev e_vis (l : Nat) (t : Term) (i : Int) : List (Nat × AV) := [(1, .yield l), (12, .p (.lst (t.args.map Term.row))), (13, .p (.int .i64 t.args.length)), (14, .p (.int .i64 i))]
end Go.AE.S
/- Patterns: what is generic, what occurs. -/
namespace Go.AE.S
open Go Go.AE
set_option linter.unusedSimpArgs false
set_option linter.unusedVariables false
variable {τ : Tm} {σ : Store} {rd : Option Nat}

theorem fold_anyG {α : Type} (q : α → Bool) : ∀ (as : List α) (i : Nat), foldE (S := Unit) (T := Unit) (fun _ _ a => if q a = true then .inr () else .inl ()) i () as = if as.any q = true then .inr () else .inl ()
  | [], i => rfl
  | a :: as, i => by
    cases h : q a <;> simp [foldE, h, fold_anyG q as]
theorem s_r04_Pattern (o : Int) : R P f_r04_Pattern [.int .i64 o] = some (.bool (decide (o ∈ [24, 25, 26]))) := by
  have h := s_r04_Is o [24, 25, 26] (by decide)
  simp only [List.map_cons, List.map_nil, irow] at h
  (rw [r_r04_Pattern (Nat.le_of_ble_eq_true rfl), F_r04_Pattern]; simp (disch := omega) only [eqs, eqL, ↓gc_len, seval, -List.reduceReplicate, reduceCtorEq, omap, depth, pcall, pureR, freezeFor, freezeAll, tupR, resV, purR, enterTm, number, gcOk, rangeEnd, mkTup, allP, q_r04_Is, h])
def idxE (x : Int) : Nat → List Int → Int
  | _, [] => -1
  | i, a :: r => if x = a then i else idxE x (i + 1) r
theorem idx_mem (x : Int) : ∀ (l : List Int) (i : Nat), 0 ≤ idxE x i l ↔ x ∈ l
  | [], i => by simp [idxE]
  | a :: l, i => by
    by_cases h : x = a
    · simp [idxE, h]
    · simp [idxE, h, idx_mem x l (i + 1)]
theorem fold_idx (x : Int) : ∀ (l : List Int) (i : Nat), doneP (fun _ => idxE x i l = -1) (fun k => idxE x i l = (k : Nat)) (foldE (S := Unit) (T := Nat) (fun i _ a => if x = a then .inr i else .inl ()) i () l)
  | [], i => rfl
  | a :: l, i => by
    by_cases h : x = a
    · simp only [foldE, idxE, h, if_true]; exact rfl
    · simp only [foldE, idxE, h, if_false]; exact fold_idx x l (i + 1)
abbrev e_Idx (l : List Int) (x i : Int) : List (Nat × AV) := [(0, .p (.lst (l.map irow))), (1, .p (.int .i64 x)), (7, .p (.int .i64 l.length)), (8, .p (.int .i64 i))]
abbrev e_anyR (l : List Term) (i : Int) : List (Nat × AV) := [(3, .p (.lst (l.map Term.row))), (4, .p (.int .i64 i))]
end Go.AE.S
/- The error of a node of a pattern, by the program and by the reference. -/
namespace Go.AE
namespace Term
theorem post_any (q : Term → Bool) (t : Term) : t.post.any q = t.pre.any q := by
  induction t using ind with
  | h t ih =>
  have key : ∀ l : List Term, (∀ a ∈ l, a.post.any q = a.pre.any q) → (posts l).any q = (pres l).any q := by
    intro l
    induction l with
    | nil => intro _; rfl
    | cons a l ihl => intro h; rw [posts, pres, List.any_append, List.any_append, h a (by simp), ihl fun b hb => h b (by simp [hb])]
  rw [post_eq, pre_eq, List.any_append, key _ ih, List.any_cons]
  simp [Bool.or_comm]
end Term
namespace S
open Go Go.AE
set_option linter.unusedSimpArgs false
set_option linter.unusedVariables false
variable {τ : Tm} {σ : Store} {rd : Option Nat}

def inner (p : Term) : Bool := match p.args with
  | a :: _ => a.pre.any fun u => decide (u.op ∈ [24, 26])
  | [] => false
def nodeE (p : Term) (ev : Bool) : Int :=
  if arity p.op < 0 ∨ p.op = 1 ∨ (p.op = 26 ∧ ev = false) ∨ ¬ (p.args.length : Int) = arity p.op then 4
  else if (¬ p.name = bs [] ∧ ¬ (p.op = 24 ∨ p.op = 25)) ∨ (¬ p.v = 0 ∧ ¬ p.op = 2 ∧ ¬ p.op = 21) then 4
  else if (p.op = 24 ∨ p.op = 25) ∧ nameOk p.name = false then 5
  else if ¬ (widthW p.op p.w p.v (p.args.map Term.w)).2 = 0 ∨ ¬ (widthW p.op p.w p.v (p.args.map Term.w)).1 = p.w then 3
  else if p.op = 26 ∧ inner p = true then 12 else 0
theorem ar26 : arity 26 = 1 := by decide
theorem ar24 : arity 24 = 0 := by decide
theorem ar25 : arity 25 = 0 := by decide
theorem ar2 : arity 2 = 0 := by decide
theorem ar21 : arity 21 = 1 := by decide
end S
end Go.AE
/- The error of a node of a pattern, by the reference. -/
namespace Go.AE.S
open Go Go.AE
set_option linter.unusedSimpArgs false
set_option linter.unusedVariables false
variable {τ : Tm} {σ : Store} {rd : Option Nat}

abbrev e_nodeR (l : List Term) (i : Int) : List (Nat × AV) := [(7, .p (.lst (l.map Term.row))), (8, .p (.int .i64 i))]
end Go.AE.S
