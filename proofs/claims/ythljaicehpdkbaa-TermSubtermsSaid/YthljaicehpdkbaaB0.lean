/- Small functions of numbers: what they give. -/
import Derived.Test.YthljaicehpdkbaaP0
import Derived.Test.YthljaicehpdkbaaIr
namespace Go.AE.S
open Go Go.AE
set_option linter.unusedSimpArgs false
set_option linter.unusedVariables false
variable {τ : Tm} {σ : Store} {rd : Option Nat}

theorem s_opinfo_known (o : Int) : R P f_opinfo_known [.int .i64 o] = some (.bool (decide (1 ≤ o ∧ o ≤ 26))) := by
  (rw [r_opinfo_known (Nat.le_of_ble_eq_true rfl), F_opinfo_known]; simp (disch := omega) only [eqs, eqL, ↓gc_len, seval, -List.reduceReplicate, reduceCtorEq, omap, depth, pcall, pureR, freezeFor, freezeAll, tupR, resV, purR, enterTm, number, gcOk, rangeEnd, mkTup, allP])
  by_cases h1 : 1 ≤ o <;> by_cases h2 : o ≤ 26 <;> simp (disch := omega) only [eqs, eqL, ↓gc_len, seval, -List.reduceReplicate, reduceCtorEq, omap, depth, pcall, pureR, freezeFor, freezeAll, tupR, resV, purR, enterTm, number, gcOk, rangeEnd, mkTup, allP, h1, h2] <;> rfl
theorem s_opinfo_inside (o : Int) : R P f_opinfo_inside [.int .i64 o] = some (.bool (decide (0 ≤ o ∧ o ≤ 64))) := by
  (rw [r_opinfo_inside (Nat.le_of_ble_eq_true rfl), F_opinfo_inside]; simp (disch := omega) only [eqs, eqL, ↓gc_len, seval, -List.reduceReplicate, reduceCtorEq, omap, depth, pcall, pureR, freezeFor, freezeAll, tupR, resV, purR, enterTm, number, gcOk, rangeEnd, mkTup, allP])
  by_cases h1 : 0 ≤ o <;> by_cases h2 : o ≤ 64 <;> simp (disch := omega) only [eqs, eqL, ↓gc_len, seval, -List.reduceReplicate, reduceCtorEq, omap, depth, pcall, pureR, freezeFor, freezeAll, tupR, resV, purR, enterTm, number, gcOk, rangeEnd, mkTup, allP, h1, h2] <;> rfl
def arity (o : Int) : Int :=
  if o = 19 then 3 else if o = 1 ∨ o = 2 ∨ o = 24 ∨ o = 25 then 0 else if o = 3 ∨ o = 4 ∨ o = 21 ∨ o = 22 ∨ o = 23 ∨ o = 26 then 1 else if 1 ≤ o ∧ o ≤ 26 then 2 else -1
theorem op_cases (o : Int) : (1 ≤ o ∧ o ≤ 26) → o = 1 ∨ o = 2 ∨ o = 3 ∨ o = 4 ∨ o = 5 ∨ o = 6 ∨ o = 7 ∨ o = 8 ∨ o = 9 ∨ o = 10 ∨ o = 11 ∨ o = 12 ∨ o = 13 ∨ o = 14 ∨ o = 15 ∨ o = 16 ∨ o = 17 ∨ o = 18 ∨ o = 19 ∨ o = 20 ∨ o = 21 ∨ o = 22 ∨ o = 23 ∨ o = 24 ∨ o = 25 ∨ o = 26 := by omega
theorem op_none {o : Int} (h : ¬ (1 ≤ o ∧ o ≤ 26)) : ¬ o = 1 ∧ ¬ o = 2 ∧ ¬ o = 3 ∧ ¬ o = 4 ∧ ¬ o = 5 ∧ ¬ o = 6 ∧ ¬ o = 7 ∧ ¬ o = 8 ∧ ¬ o = 9 ∧ ¬ o = 10 ∧ ¬ o = 11 ∧ ¬ o = 12 ∧ ¬ o = 13 ∧ ¬ o = 14 ∧ ¬ o = 15 ∧ ¬ o = 16 ∧ ¬ o = 17 ∧ ¬ o = 18 ∧ ¬ o = 19 ∧ ¬ o = 20 ∧ ¬ o = 21 ∧ ¬ o = 22 ∧ ¬ o = 23 ∧ ¬ o = 24 ∧ ¬ o = 25 ∧ ¬ o = 26 := by omega
theorem s_opinfo_Arity (o : Int) : R P f_opinfo_Arity [.int .i64 o] = some (.int .i64 (arity o)) := by
  by_cases h : 1 ≤ o ∧ o ≤ 26
  · rcases op_cases o h with h | h | h | h | h | h | h | h | h | h | h | h | h | h | h | h | h | h | h | h | h | h | h | h | h | h <;> subst h <;> (rw [r_opinfo_Arity (Nat.le_of_ble_eq_true rfl), F_opinfo_Arity]; simp (disch := omega) only [eqs, eqL, ↓gc_len, seval, -List.reduceReplicate, reduceCtorEq, omap, depth, pcall, pureR, freezeFor, freezeAll, tupR, resV, purR, enterTm, number, gcOk, rangeEnd, mkTup, allP]) <;> rfl
  · have hn := op_none h
    (rw [r_opinfo_Arity (Nat.le_of_ble_eq_true rfl), F_opinfo_Arity]; simp (disch := omega) only [eqs, eqL, ↓gc_len, seval, -List.reduceReplicate, reduceCtorEq, omap, depth, pcall, pureR, freezeFor, freezeAll, tupR, resV, purR, enterTm, number, gcOk, rangeEnd, mkTup, allP, hn])
    simp [arity, hn, h]
end Go.AE.S
/- Widths: what the functions of operators' widths give. -/
namespace Go.AE.S
open Go Go.AE
set_option linter.unusedSimpArgs false
set_option linter.unusedVariables false
variable {τ : Tm} {σ : Store} {rd : Option Nat}

def okW (w : Int) : Bool := decide (0 ≤ w ∧ w ≤ 64)
def two (x : Int × Int) : PV := .tup [.int .i64 x.1, .int .i64 x.2]
def leafW (o w v : Int) : Int × Int := if ¬ (0 ≤ w ∧ w ≤ 64) ∨ o = 2 ∧ 0 < w ∧ (2 : Int) ^ w.toNat ≤ v then (0, 3) else (w, 0)
theorem shr_zero {v w : Int} (hv : 0 ≤ v) (hw : w ≤ 64) : (v.fdiv (2 ^ min w.toNat IntKind.u64.bits) = 0) ↔ v < 2 ^ w.toNat := by
  have h1 : min w.toNat IntKind.u64.bits = w.toNat := Nat.min_eq_left (by show w.toNat ≤ 64; omega)
  have hp : (0 : Int) < 2 ^ w.toNat := Int.pow_pos (by omega)
  rw [h1, Int.fdiv_eq_ediv_of_nonneg _ (by omega)]
  constructor
  · intro h
    have := Int.emod_lt_of_pos v hp
    have h2 := Int.mul_ediv_add_emod v (2 ^ w.toNat)
    rw [h] at h2
    omega
  · intro h
    exact Int.ediv_eq_zero_of_lt hv h
theorem s_opinfo_leaf (o w v : Int) (hv : 0 ≤ v ∧ v ≤ 18446744073709551615) : R P f_opinfo_leaf [.int .i64 o, .int .i64 w, .int .u64 v] = some (two (leafW o w v)) := by
  (rw [r_opinfo_leaf (Nat.le_of_ble_eq_true rfl), F_opinfo_leaf]; simp (disch := omega) only [eqs, eqL, ↓gc_len, seval, -List.reduceReplicate, reduceCtorEq, omap, depth, pcall, pureR, freezeFor, freezeAll, tupR, resV, purR, enterTm, number, gcOk, rangeEnd, mkTup, allP, q_opinfo_inside, s_opinfo_inside])
  by_cases h1 : 0 ≤ w ∧ w ≤ 64
  · by_cases h2 : o = 2
    · by_cases h3 : 0 < w
      · have hz := shr_zero hv.1 h1.2
        by_cases h4 : v < 2 ^ w.toNat
        · simp (disch := omega) only [eqs, eqL, ↓gc_len, seval, -List.reduceReplicate, reduceCtorEq, omap, depth, pcall, pureR, freezeFor, freezeAll, tupR, resV, purR, enterTm, number, gcOk, rangeEnd, mkTup, allP, h1, h2, h3, v_shr, hz, h4]
          simp [leafW, h1, h2, two, Int.not_le.2 h4]
        · simp (disch := omega) only [eqs, eqL, ↓gc_len, seval, -List.reduceReplicate, reduceCtorEq, omap, depth, pcall, pureR, freezeFor, freezeAll, tupR, resV, purR, enterTm, number, gcOk, rangeEnd, mkTup, allP, h1, h2, h3, v_shr, hz, h4]
          simp [leafW, h1, h2, h3, two, Int.not_lt.1 h4]
      · simp (disch := omega) only [eqs, eqL, ↓gc_len, seval, -List.reduceReplicate, reduceCtorEq, omap, depth, pcall, pureR, freezeFor, freezeAll, tupR, resV, purR, enterTm, number, gcOk, rangeEnd, mkTup, allP, h1, h2, h3]
        simp [leafW, h1, h2, two, h3]
    · simp (disch := omega) only [eqs, eqL, ↓gc_len, seval, -List.reduceReplicate, reduceCtorEq, omap, depth, pcall, pureR, freezeFor, freezeAll, tupR, resV, purR, enterTm, number, gcOk, rangeEnd, mkTup, allP, h1, h2]
      simp [leafW, h1, h2, two]
  · simp (disch := omega) only [eqs, eqL, ↓gc_len, seval, -List.reduceReplicate, reduceCtorEq, omap, depth, pcall, pureR, freezeFor, freezeAll, tupR, resV, purR, enterTm, number, gcOk, rangeEnd, mkTup, allP, h1]
    simp [leafW, h1, two]
def sizeW (o w v f : Int) : Int × Int := if w < 1 ∨ 64 < w ∨ f < 1 ∨ (o = 21 ∧ (f < w ∨ f - w < v)) ∨ (¬ o = 21 ∧ w < f) then (0, 3) else (w, 0)
theorem conv_diff {f w : Int} (hf : f ≤ 9223372036854775807) (h1 : 1 ≤ w) (h2 : w ≤ f) : IntKind.u64.wrap (IntKind.i64.wrap (f - w)) = f - w := by
  rw [IntWalk.i64_in _ (by omega), IntWalk.u64_in _ (by omega)]
theorem s_opinfo_resized (o w v f : Int) (hf : -9223372036854775808 ≤ f ∧ f ≤ 9223372036854775807) : R P f_opinfo_resized [.int .i64 o, .int .i64 w, .int .u64 v, .int .i64 f] = some (two (sizeW o w v f)) := by
  (rw [r_opinfo_resized (Nat.le_of_ble_eq_true rfl), F_opinfo_resized]; simp (disch := omega) only [eqs, eqL, ↓gc_len, seval, -List.reduceReplicate, reduceCtorEq, omap, depth, pcall, pureR, freezeFor, freezeAll, tupR, resV, purR, enterTm, number, gcOk, rangeEnd, mkTup, allP])
  by_cases h1 : w < 1
  · simp (disch := omega) only [eqs, eqL, ↓gc_len, seval, -List.reduceReplicate, reduceCtorEq, omap, depth, pcall, pureR, freezeFor, freezeAll, tupR, resV, purR, enterTm, number, gcOk, rangeEnd, mkTup, allP, h1]
    simp [sizeW, h1, two]
  by_cases h2 : 64 < w
  · simp (disch := omega) only [eqs, eqL, ↓gc_len, seval, -List.reduceReplicate, reduceCtorEq, omap, depth, pcall, pureR, freezeFor, freezeAll, tupR, resV, purR, enterTm, number, gcOk, rangeEnd, mkTup, allP, h1, h2]
    simp [sizeW, h2, two]
  by_cases h3 : f < 1
  · simp (disch := omega) only [eqs, eqL, ↓gc_len, seval, -List.reduceReplicate, reduceCtorEq, omap, depth, pcall, pureR, freezeFor, freezeAll, tupR, resV, purR, enterTm, number, gcOk, rangeEnd, mkTup, allP, h1, h2, h3]
    simp [sizeW, h3, two]
  by_cases h4 : o = 21
  · by_cases h5 : f < w
    · simp (disch := omega) only [eqs, eqL, ↓gc_len, seval, -List.reduceReplicate, reduceCtorEq, omap, depth, pcall, pureR, freezeFor, freezeAll, tupR, resV, purR, enterTm, number, gcOk, rangeEnd, mkTup, allP, h1, h2, h3, h4, h5]
      simp [sizeW, h4, h5, two]
    · have hc := conv_diff (f := f) (w := w) hf.2 (by omega) (by omega)
      by_cases h6 : f - w < v
      · simp (disch := omega) only [eqs, eqL, ↓gc_len, seval, -List.reduceReplicate, reduceCtorEq, omap, depth, pcall, pureR, freezeFor, freezeAll, tupR, resV, purR, enterTm, number, gcOk, rangeEnd, mkTup, allP, h1, h2, h3, h4, h5, hc, h6]
        simp [sizeW, h4, h6, two]
      · simp (disch := omega) only [eqs, eqL, ↓gc_len, seval, -List.reduceReplicate, reduceCtorEq, omap, depth, pcall, pureR, freezeFor, freezeAll, tupR, resV, purR, enterTm, number, gcOk, rangeEnd, mkTup, allP, h1, h2, h3, h4, h5, hc, h6]
        simp [sizeW, h1, h2, h3, h4, h5, h6, two]
  · by_cases h5 : w < f
    · simp (disch := omega) only [eqs, eqL, ↓gc_len, seval, -List.reduceReplicate, reduceCtorEq, omap, depth, pcall, pureR, freezeFor, freezeAll, tupR, resV, purR, enterTm, number, gcOk, rangeEnd, mkTup, allP, h1, h2, h3, h4, h5]
      simp [sizeW, h4, h5, two]
    · simp (disch := omega) only [eqs, eqL, ↓gc_len, seval, -List.reduceReplicate, reduceCtorEq, omap, depth, pcall, pureR, freezeFor, freezeAll, tupR, resV, purR, enterTm, number, gcOk, rangeEnd, mkTup, allP, h1, h2, h3, h4, h5]
      simp [sizeW, h1, h2, h3, h4, h5, two]
theorem s_opinfo_agreed (c : Bool) (r : Int) : R P f_opinfo_agreed [.bool c, .int .i64 r] = some (two (if c then (r, 0) else (0, 3))) := by
  cases c <;> (rw [r_opinfo_agreed (Nat.le_of_ble_eq_true rfl), F_opinfo_agreed]; simp (disch := omega) only [eqs, eqL, ↓gc_len, seval, -List.reduceReplicate, reduceCtorEq, omap, depth, pcall, pureR, freezeFor, freezeAll, tupR, resV, purR, enterTm, number, gcOk, rangeEnd, mkTup, allP]) <;> rfl
/-- Numbers as rows. -/
def irow (n : Int) : List PV := [.int .i64 n]
def widthW (o w v : Int) (as : List Int) : Int × Int :=
  if arity o < 0 ∨ ¬ (as.length : Int) = arity o then (0, 4)
  else if as.all okW = false then (0, 3)
  else if arity o = 0 then leafW o w v
  else if o = 21 ∨ o = 22 ∨ o = 23 then sizeW o w v (as.getD 0 0)
  else if arity o = 1 then (as.getD 0 0, 0)
  else if o = 20 then if 1 ≤ as.getD 0 0 ∧ 1 ≤ as.getD 1 0 ∧ as.getD 0 0 + as.getD 1 0 ≤ 64 then (as.getD 0 0 + as.getD 1 0, 0) else (0, 3)
  else if o = 19 then if as.getD 0 0 = 1 ∧ as.getD 1 0 = as.getD 2 0 then (as.getD 1 0, 0) else (0, 3)
  else if as.getD 0 0 = as.getD 1 0 then (if o = 16 ∨ o = 17 ∨ o = 18 then (1, 0) else (as.getD 0 0, 0)) else (0, 3)
abbrev e_Width (o w v : Int) (as : List Int) (i : Int) : List (Nat × AV) := [(0, .p (.int .i64 o)), (1, .p (.int .i64 w)), (2, .p (.int .u64 v)), (3, .p (.lst (as.map irow))), (22, .p (.lst (as.map irow))), (23, .p (.int .i64 as.length)), (24, .p (.int .i64 i))]
theorem map_get {α β : Type} {f : α → β} {l : List α} {i : Nat} {a : α} (h : l[i]? = some a) : (l.map f)[i]? = some (f a) := by simp [h]
theorem fold_all (q : Int → Bool) : ∀ (as : List Int) (i : Nat), foldE (S := Unit) (T := Unit) (fun _ _ a => if q a = true then .inl () else .inr ()) i () as = if as.all q = true then .inl () else .inr ()
  | [], i => rfl
  | a :: as, i => by
    cases h : q a <;> simp [foldE, h, fold_all q as]
/-- A way out by a return, with two results. -/
def ret2 (a b : Nat) (x y : PV) (σ : Store) (r : Ex × St) : Prop := r.1 = .ret ∧ r.2.τ.get a = .p x ∧ r.2.τ.get b = .p y ∧ r.2.σ = σ
theorem l_opinfo_Width (o w v : Int) (as : List Int) (hl : as.length ≤ 1000000) : if as.all okW = true then
      loopAt P L0_opinfo_Width (e_Width o w v as 0) σ 144 rd = some (.exit 0, ⟨upd (tm (e_Width o w v as as.length)) 25 (.p (.bool false)), σ, 144, rd⟩)
    else ∃ r, loopAt P L0_opinfo_Width (e_Width o w v as 0) σ 144 rd = some r ∧ ret2 8 9 (.int .i64 0) (.int .i64 3) σ r := by
  have h := loop_foldE (P := P) (nt := 144) (rd := rd) (lv := [0, 1, 2, 3, 22, 23, 24]) (b := B0_opinfo_Width) (x := 0) (as := as) (fun i (_ : Unit) => e_Width o w v as i) (fun _ => σ) (fun i _ a => if okW a = true then .inl () else .inr ())
    (fun _ => ⟨upd (tm (e_Width o w v as as.length)) 25 (.p (.bool false)), σ, 144, rd⟩) (fun _ => ret2 8 9 (.int .i64 0) (.int .i64 3) σ) (fun _ _ => True)
    (fun i a s ha hi hs => by
      refine ⟨fun _ _ => trivial, ?_⟩
      have hlt : ((i : Int) < as.length) = True := by simpa using hi
      by_cases hc : 0 ≤ a ∧ a ≤ 64
      · simp only [B0_opinfo_Width]
        simp (disch := omega) only [eqs, eqL, ↓gc_len, seval, -List.reduceReplicate, reduceCtorEq, omap, depth, pcall, pureR, freezeFor, freezeAll, tupR, resV, purR, enterTm, number, gcOk, rangeEnd, mkTup, allP, hlt, v_iadr (es := 1) (map_get (f := irow) ha) rfl, irow, q_opinfo_inside, s_opinfo_inside, okW, hc]
      · simp only [B0_opinfo_Width]
        simp (disch := omega) only [eqs, eqL, ↓gc_len, seval, -List.reduceReplicate, reduceCtorEq, omap, depth, pcall, pureR, freezeFor, freezeAll, tupR, resV, purR, enterTm, number, gcOk, rangeEnd, mkTup, allP, hlt, v_iadr (es := 1) (map_get (f := irow) ha) rfl, irow, q_opinfo_inside, s_opinfo_inside, okW, hc, ret2]) (fun s hs => by
      simp only [B0_opinfo_Width]
      simp (disch := omega) only [eqs, eqL, ↓gc_len, seval, -List.reduceReplicate, reduceCtorEq, omap, depth, pcall, pureR, freezeFor, freezeAll, tupR, resV, purR, enterTm, number, gcOk, rangeEnd, mkTup, allP, Int.lt_irrefl]) (fun i s => rfl) () trivial
  rw [fold_all] at h
  exact (done_if h :)
end Go.AE.S
/- The width of an operator's value, by the program. -/
namespace Go.AE.S
open Go Go.AE
set_option linter.unusedSimpArgs false
set_option linter.unusedVariables false
variable {τ : Tm} {σ : Store} {rd : Option Nat}

theorem arity_none {o : Int} (h : ¬ (1 ≤ o ∧ o ≤ 26)) : arity o = -1 := by
  have hn := op_none h
  simp [arity, hn, h]
theorem arity_some {o : Int} (h : 1 ≤ o ∧ o ≤ 26) : 0 ≤ arity o ∧ arity o ≤ 3 := by
  rcases op_cases o h with h | h | h | h | h | h | h | h | h | h | h | h | h | h | h | h | h | h | h | h | h | h | h | h | h | h <;> subst h <;> decide
theorem grp0 {o : Int} (h : 1 ≤ o ∧ o ≤ 26) (h0 : arity o = 0) : o = 1 ∨ o = 2 ∨ o = 24 ∨ o = 25 := by
  rcases op_cases o h with h' | h' | h' | h' | h' | h' | h' | h' | h' | h' | h' | h' | h' | h' | h' | h' | h' | h' | h' | h' | h' | h' | h' | h' | h' | h' <;> subst h' <;> first | omega | exact absurd h0 (by decide)
theorem grp1 {o : Int} (h : 1 ≤ o ∧ o ≤ 26) (h0 : arity o = 1) : o = 3 ∨ o = 4 ∨ o = 26 ∨ o = 21 ∨ o = 22 ∨ o = 23 := by
  rcases op_cases o h with h' | h' | h' | h' | h' | h' | h' | h' | h' | h' | h' | h' | h' | h' | h' | h' | h' | h' | h' | h' | h' | h' | h' | h' | h' | h' <;> subst h' <;> first | omega | exact absurd h0 (by decide)
theorem grp3 {o : Int} (h : 1 ≤ o ∧ o ≤ 26) (h0 : arity o = 3) : o = 19 := by
  rcases op_cases o h with h' | h' | h' | h' | h' | h' | h' | h' | h' | h' | h' | h' | h' | h' | h' | h' | h' | h' | h' | h' | h' | h' | h' | h' | h' | h' <;> subst h' <;> first | omega | exact absurd h0 (by decide)
theorem grp2 {o : Int} (h : 1 ≤ o ∧ o ≤ 26) (h0 : arity o = 2) : ¬ o = 1 ∧ ¬ o = 2 ∧ ¬ o = 24 ∧ ¬ o = 25 ∧ ¬ o = 3 ∧ ¬ o = 4 ∧ ¬ o = 26 ∧ ¬ o = 21 ∧ ¬ o = 22 ∧ ¬ o = 23 ∧ ¬ o = 19 := by
  refine ⟨?_, ?_, ?_, ?_, ?_, ?_, ?_, ?_, ?_, ?_, ?_⟩ <;> (rintro rfl; exact absurd h0 (by decide))
theorem w64_sum {a b : Int} (h : okW a = true) (h' : okW b = true) : IntKind.i64.wrap (a + b) = a + b := by
  simp only [okW, decide_eq_true_eq] at h h'
  exact IntWalk.i64_in _ (by omega)
theorem s_opinfo_Width (o w v : Int) (as : List Int) (hl : as.length ≤ 1000000) (hv : 0 ≤ v ∧ v ≤ 18446744073709551615) :
    R P f_opinfo_Width [.int .i64 o, .int .i64 w, .int .u64 v, .lst (as.map irow)] = some (two (widthW o w v as)) := by
  by_cases hk : 1 ≤ o ∧ o ≤ 26
  rotate_left
  · (rw [r_opinfo_Width (Nat.le_of_ble_eq_true rfl), F_opinfo_Width]; simp (disch := omega) only [eqs, eqL, ↓gc_len, seval, -List.reduceReplicate, reduceCtorEq, omap, depth, pcall, pureR, freezeFor, freezeAll, tupR, resV, purR, enterTm, number, gcOk, rangeEnd, mkTup, allP, q_opinfo_known, s_opinfo_known, hk, q_opinfo_Arity, s_opinfo_Arity])
    simp [widthW, arity_none hk, two]
  by_cases hn : (as.length : Int) = arity o
  rotate_left
  · (rw [r_opinfo_Width (Nat.le_of_ble_eq_true rfl), F_opinfo_Width]; simp (disch := omega) only [eqs, eqL, ↓gc_len, seval, -List.reduceReplicate, reduceCtorEq, omap, depth, pcall, pureR, freezeFor, freezeAll, tupR, resV, purR, enterTm, number, gcOk, rangeEnd, mkTup, allP, q_opinfo_known, s_opinfo_known, hk, q_opinfo_Arity, s_opinfo_Arity, List.length_map, hn])
    simp [widthW, hn, two]
  have hn' := eq_true hn
  have hL := l_opinfo_Width (σ := []) (rd := none) o w v as hl
  have har := arity_some hk
  by_cases ha : as.all okW = true
  rotate_left
  · rw [if_neg ha] at hL
    obtain ⟨⟨e, τ', σ', nt', rd'⟩, h1, h2, h3, h4, h5⟩ := hL
    simp only at h2 h3 h4 h5
    subst h2; subst h5
    (rw [r_opinfo_Width (Nat.le_of_ble_eq_true rfl), F_opinfo_Width]; simp (disch := omega) only [eqs, eqL, ↓gc_len, seval, -List.reduceReplicate, reduceCtorEq, omap, depth, pcall, pureR, freezeFor, freezeAll, tupR, resV, purR, enterTm, number, gcOk, rangeEnd, mkTup, allP, q_opinfo_known, s_opinfo_known, hk, q_opinfo_Arity, s_opinfo_Arity, List.length_map, hn', k0_opinfo_Width])
    simp (disch := omega) only [eqs, eqL, ↓gc_len, seval, -List.reduceReplicate, reduceCtorEq, omap, depth, pcall, pureR, freezeFor, freezeAll, tupR, resV, purR, enterTm, number, gcOk, rangeEnd, mkTup, allP, h1, h3, h4]
    simp [widthW, hn, ha, two, show ¬ arity o < 0 by omega]
  rw [if_pos ha] at hL
  have ha0 : ∀ a : Int, a ∈ as → okW a = true := by simpa using ha
  have g : ∀ n : Nat, n < as.length → ∃ a, as[n]? = some a ∧ okW a = true := fun n h => ⟨as[n], List.getElem?_eq_getElem h, ha0 _ (List.getElem_mem h)⟩
  have hspec : ¬ arity o < 0 := by omega
  by_cases h0 : arity o = 0
  · rcases grp0 hk h0 with h | h | h | h <;> subst h <;> (rw [r_opinfo_Width (Nat.le_of_ble_eq_true rfl), F_opinfo_Width]; simp (disch := omega) only [eqs, eqL, ↓gc_len, seval, -List.reduceReplicate, reduceCtorEq, omap, depth, pcall, pureR, freezeFor, freezeAll, tupR, resV, purR, enterTm, number, gcOk, rangeEnd, mkTup, allP, q_opinfo_known, s_opinfo_known, hk, q_opinfo_Arity, s_opinfo_Arity, List.length_map, hn', k0_opinfo_Width, hL, q_opinfo_leaf, s_opinfo_leaf _ _ _ hv, two]) <;> simp [widthW, hn, ha, two, h0]
  by_cases h1 : arity o = 1
  · obtain ⟨a, ga, gb⟩ := g 0 (by omega)
    have ab : -9223372036854775808 ≤ a ∧ a ≤ 9223372036854775807 := by simp only [okW, decide_eq_true_eq] at gb; omega
    have i0 := v_ia0 (k := .i64) (σ := []) (es := 1) (map_get (f := irow) ga) rfl
    have gd : as.getD 0 0 = a := by simp [List.getD, ga]
    rcases grp1 hk h1 with h | h | h | h | h | h <;> subst h <;> (rw [r_opinfo_Width (Nat.le_of_ble_eq_true rfl), F_opinfo_Width]; simp (disch := omega) only [eqs, eqL, ↓gc_len, seval, -List.reduceReplicate, reduceCtorEq, omap, depth, pcall, pureR, freezeFor, freezeAll, tupR, resV, purR, enterTm, number, gcOk, rangeEnd, mkTup, allP, q_opinfo_known, s_opinfo_known, hk, q_opinfo_Arity, s_opinfo_Arity, List.length_map, hn', k0_opinfo_Width, hL, q_opinfo_resized, s_opinfo_resized _ _ _ _ ab, two, i0, irow]) <;> simp [widthW, hn, ha, two, h1, ga, gd]
  by_cases h3 : arity o = 3
  · obtain ⟨a, ga, _⟩ := g 0 (by omega)
    obtain ⟨b, gb, _⟩ := g 1 (by omega)
    obtain ⟨c, gc, _⟩ := g 2 (by omega)
    have i0 := v_ia0 (k := .i64) (σ := []) (es := 1) (map_get (f := irow) ga) rfl
    have i1 := v_ia1 (k := .i64) (σ := []) (es := 1) (map_get (f := irow) gb) rfl
    have i2 := v_ia2 (k := .i64) (σ := []) (es := 1) (map_get (f := irow) gc) rfl
    have da : as.getD 0 0 = a := by simp [List.getD, ga]
    have db : as.getD 1 0 = b := by simp [List.getD, gb]
    have dc : as.getD 2 0 = c := by simp [List.getD, gc]
    have e := grp3 hk h3
    subst e
    by_cases c1 : a = 1 <;> by_cases c2 : b = c <;> (rw [r_opinfo_Width (Nat.le_of_ble_eq_true rfl), F_opinfo_Width]; simp (disch := omega) only [eqs, eqL, ↓gc_len, seval, -List.reduceReplicate, reduceCtorEq, omap, depth, pcall, pureR, freezeFor, freezeAll, tupR, resV, purR, enterTm, number, gcOk, rangeEnd, mkTup, allP, q_opinfo_known, s_opinfo_known, hk, q_opinfo_Arity, s_opinfo_Arity, List.length_map, hn', k0_opinfo_Width, hL, q_opinfo_agreed, s_opinfo_agreed, two, i0, i1, i2, irow, eq_true c1, eq_true c2, c1, c2]) <;> simp [widthW, hn, ha, two, h3, ga, gb, gc, c1, c2]
  have h2 : arity o = 2 := by omega
  obtain ⟨a, ga, oa⟩ := g 0 (by omega)
  obtain ⟨b, gb, ob⟩ := g 1 (by omega)
  have i0 := v_ia0 (k := .i64) (σ := []) (es := 1) (map_get (f := irow) ga) rfl
  have i1 := v_ia1 (k := .i64) (σ := []) (es := 1) (map_get (f := irow) gb) rfl
  have da : as.getD 0 0 = a := by simp [List.getD, ga]
  have db : as.getD 1 0 = b := by simp [List.getD, gb]
  have hg := grp2 hk h2
  have hs := w64_sum oa ob
  by_cases h20 : o = 20
  · subst h20
    by_cases c1 : 1 ≤ a <;> by_cases c2 : 1 ≤ b <;> by_cases c3 : a + b ≤ 64 <;> (rw [r_opinfo_Width (Nat.le_of_ble_eq_true rfl), F_opinfo_Width]; simp (disch := omega) only [eqs, eqL, ↓gc_len, seval, -List.reduceReplicate, reduceCtorEq, omap, depth, pcall, pureR, freezeFor, freezeAll, tupR, resV, purR, enterTm, number, gcOk, rangeEnd, mkTup, allP, q_opinfo_known, s_opinfo_known, hk, q_opinfo_Arity, s_opinfo_Arity, List.length_map, hn', k0_opinfo_Width, hL, q_opinfo_agreed, s_opinfo_agreed, two, i0, i1, irow, hs, c1, c2, c3]) <;> simp [widthW, hn, ha, two, h2, ga, gb, c1, c2, c3]
  by_cases h16 : o = 16 ∨ o = 17 ∨ o = 18
  · rcases h16 with h | h | h <;> subst h <;> by_cases c1 : a = b <;> (rw [r_opinfo_Width (Nat.le_of_ble_eq_true rfl), F_opinfo_Width]; simp (disch := omega) only [eqs, eqL, ↓gc_len, seval, -List.reduceReplicate, reduceCtorEq, omap, depth, pcall, pureR, freezeFor, freezeAll, tupR, resV, purR, enterTm, number, gcOk, rangeEnd, mkTup, allP, q_opinfo_known, s_opinfo_known, hk, q_opinfo_Arity, s_opinfo_Arity, List.length_map, hn', k0_opinfo_Width, hL, q_opinfo_agreed, s_opinfo_agreed, two, i0, i1, irow, eq_true c1, c1]) <;> simp [widthW, hn, ha, two, h2, ga, gb, c1]
  · have h16' := not_or.1 h16
    have h17' := not_or.1 h16'.2
    by_cases c1 : a = b <;> (rw [r_opinfo_Width (Nat.le_of_ble_eq_true rfl), F_opinfo_Width]; simp (disch := omega) only [eqs, eqL, ↓gc_len, seval, -List.reduceReplicate, reduceCtorEq, omap, depth, pcall, pureR, freezeFor, freezeAll, tupR, resV, purR, enterTm, number, gcOk, rangeEnd, mkTup, allP, q_opinfo_known, s_opinfo_known, hk, q_opinfo_Arity, s_opinfo_Arity, List.length_map, hn', k0_opinfo_Width, hL, q_opinfo_agreed, s_opinfo_agreed, two, i0, i1, irow, eq_true c1, c1, hg, h20, h16'.1, h17'.1, h17'.2]) <;> simp [widthW, hn, ha, two, h2, ga, gb, c1, hg, h20, h16]
end Go.AE.S
/- Membership, and widths by the reference. -/
namespace Go.AE.S
open Go Go.AE
set_option linter.unusedSimpArgs false
set_option linter.unusedVariables false
variable {τ : Tm} {σ : Store} {rd : Option Nat}

theorem fold_mem (o : Int) : ∀ (as : List Int) (i : Nat), foldE (S := Unit) (T := Unit) (fun _ _ a => if a = o then .inr () else .inl ()) i () as = if o ∈ as then .inr () else .inl ()
  | [], i => rfl
  | a :: as, i => by
    by_cases h : a = o
    · simp [foldE, h]
    · have h' : ¬ o = a := fun e => h e.symm
      simp [foldE, h, h', fold_mem o as]
def ret1 (a : Nat) (x : PV) (σ : Store) (r : Ex × St) : Prop := r.1 = .ret ∧ r.2.τ.get a = .p x ∧ r.2.σ = σ
abbrev e_Is (o : Int) (as : List Int) (i : Int) : List (Nat × AV) := [(0, .p (.int .i64 o)), (1, .p (.lst (as.map irow))), (7, .p (.int .i64 as.length)), (8, .p (.int .i64 i))]
theorem l_r04_Is (o : Int) (as : List Int) (hl : as.length ≤ 1000000) : if o ∈ as then
      ∃ r, loopAt P L0_r04_Is (e_Is o as 0) σ 18 rd = some r ∧ ret1 4 (.bool true) σ r
    else loopAt P L0_r04_Is (e_Is o as 0) σ 18 rd = some (.exit 0, ⟨upd (tm (e_Is o as as.length)) 9 (.p (.bool false)), σ, 18, rd⟩) := by
  have h := loop_foldE (P := P) (nt := 18) (rd := rd) (lv := [0, 1, 7, 8]) (b := B0_r04_Is) (x := 0) (as := as) (fun i (_ : Unit) => e_Is o as i) (fun _ => σ) (fun i _ a => if a = o then .inr () else .inl ())
    (fun _ => ⟨upd (tm (e_Is o as as.length)) 9 (.p (.bool false)), σ, 18, rd⟩) (fun _ => ret1 4 (.bool true) σ) (fun _ _ => True)
    (fun i a s ha hi hs => by
      refine ⟨fun _ _ => trivial, ?_⟩
      have hlt : ((i : Int) < as.length) = True := by simpa using hi
      by_cases hc : a = o <;> simp only [B0_r04_Is] <;> simp (disch := omega) only [eqs, eqL, ↓gc_len, seval, -List.reduceReplicate, reduceCtorEq, omap, depth, pcall, pureR, freezeFor, freezeAll, tupR, resV, purR, enterTm, number, gcOk, rangeEnd, mkTup, allP, hlt, v_iadr (es := 1) (map_get (f := irow) ha) rfl, irow, eq_true hc, hc, ret1]) (fun s hs => by
      simp only [B0_r04_Is]
      simp (disch := omega) only [eqs, eqL, ↓gc_len, seval, -List.reduceReplicate, reduceCtorEq, omap, depth, pcall, pureR, freezeFor, freezeAll, tupR, resV, purR, enterTm, number, gcOk, rangeEnd, mkTup, allP, Int.lt_irrefl]) (fun i s => rfl) () trivial
  rw [fold_mem] at h
  exact (done_fi h :)
theorem s_r04_Is (o : Int) (as : List Int) (hl : as.length ≤ 1000000) : R P f_r04_Is [.int .i64 o, .lst (as.map irow)] = some (.bool (decide (o ∈ as))) := by
  have h := l_r04_Is (σ := []) (rd := none) o as hl
  by_cases hc : o ∈ as
  · rw [if_pos hc] at h
    obtain ⟨⟨e, τ', σ', nt', rd'⟩, h1, h2, h3, h4⟩ := h
    simp only at h2 h3 h4
    subst h2; subst h4
    (rw [r_r04_Is (Nat.le_of_ble_eq_true rfl), F_r04_Is]; simp (disch := omega) only [eqs, eqL, ↓gc_len, seval, -List.reduceReplicate, reduceCtorEq, omap, depth, pcall, pureR, freezeFor, freezeAll, tupR, resV, purR, enterTm, number, gcOk, rangeEnd, mkTup, allP, List.length_map, k0_r04_Is, h1, h3])
    simp [hc]
  · rw [if_neg hc] at h
    (rw [r_r04_Is (Nat.le_of_ble_eq_true rfl), F_r04_Is]; simp (disch := omega) only [eqs, eqL, ↓gc_len, seval, -List.reduceReplicate, reduceCtorEq, omap, depth, pcall, pureR, freezeFor, freezeAll, tupR, resV, purR, enterTm, number, gcOk, rangeEnd, mkTup, allP, List.length_map, k0_r04_Is, h])
    simp [hc]
theorem ints_rows (l : List Int) : l.map irow = l.map fun n => [PV.int .i64 n] := rfl
theorem s_r04_Leaf (o : Int) : R P f_r04_Leaf [.int .i64 o] = some (.bool (decide (o = 1 ∨ o = 2 ∨ o = 24 ∨ o = 25))) := by
  have h := s_r04_Is o [1, 2, 24, 25] (by decide)
  simp only [List.map_cons, List.map_nil, irow] at h
  (rw [r_r04_Leaf (Nat.le_of_ble_eq_true rfl), F_r04_Leaf]; simp (disch := omega) only [eqs, eqL, ↓gc_len, seval, -List.reduceReplicate, reduceCtorEq, omap, depth, pcall, pureR, freezeFor, freezeAll, tupR, resV, purR, enterTm, number, gcOk, rangeEnd, mkTup, allP, q_r04_Is, h])
  simp
theorem s_r04_width (o : Int) : R P f_r04_width [.int .i64 o] = some (.bool (decide (0 ≤ o ∧ o ≤ 64))) := by
  (rw [r_r04_width (Nat.le_of_ble_eq_true rfl), F_r04_width]; simp (disch := omega) only [eqs, eqL, ↓gc_len, seval, -List.reduceReplicate, reduceCtorEq, omap, depth, pcall, pureR, freezeFor, freezeAll, tupR, resV, purR, enterTm, number, gcOk, rangeEnd, mkTup, allP])
  by_cases h1 : 0 ≤ o <;> by_cases h2 : o ≤ 64 <;> simp (disch := omega) only [eqs, eqL, ↓gc_len, seval, -List.reduceReplicate, reduceCtorEq, omap, depth, pcall, pureR, freezeFor, freezeAll, tupR, resV, purR, enterTm, number, gcOk, rangeEnd, mkTup, allP, h1, h2] <;> rfl
theorem s_r04_Arity (o : Int) : R P f_r04_Arity [.int .i64 o] = some (.int .i64 (arity o)) := by
  have h := s_r04_Is o [3, 4, 21, 22, 23, 26] (by decide)
  simp only [List.map_cons, List.map_nil, irow] at h
  by_cases hk : 1 ≤ o ∧ o ≤ 26
  · rcases op_cases o hk with h' | h' | h' | h' | h' | h' | h' | h' | h' | h' | h' | h' | h' | h' | h' | h' | h' | h' | h' | h' | h' | h' | h' | h' | h' | h' <;> subst h' <;> (rw [r_r04_Arity (Nat.le_of_ble_eq_true rfl), F_r04_Arity]; simp (disch := omega) only [eqs, eqL, ↓gc_len, seval, -List.reduceReplicate, reduceCtorEq, omap, depth, pcall, pureR, freezeFor, freezeAll, tupR, resV, purR, enterTm, number, gcOk, rangeEnd, mkTup, allP, q_r04_Is, q_r04_Leaf, s_r04_Leaf, h, List.mem_cons, List.not_mem_nil]) <;> rfl
  · by_cases h1 : o < 1
    · (rw [r_r04_Arity (Nat.le_of_ble_eq_true rfl), F_r04_Arity]; simp (disch := omega) only [eqs, eqL, ↓gc_len, seval, -List.reduceReplicate, reduceCtorEq, omap, depth, pcall, pureR, freezeFor, freezeAll, tupR, resV, purR, enterTm, number, gcOk, rangeEnd, mkTup, allP, q_r04_Is, q_r04_Leaf, s_r04_Leaf, h, h1])
      simp [arity_none hk]
    · have h2 : 26 < o := by omega
      (rw [r_r04_Arity (Nat.le_of_ble_eq_true rfl), F_r04_Arity]; simp (disch := omega) only [eqs, eqL, ↓gc_len, seval, -List.reduceReplicate, reduceCtorEq, omap, depth, pcall, pureR, freezeFor, freezeAll, tupR, resV, purR, enterTm, number, gcOk, rangeEnd, mkTup, allP, q_r04_Is, q_r04_Leaf, s_r04_Leaf, h, h1, h2])
      simp [arity_none hk]
end Go.AE.S
/- The width of an operator's value, by the reference. -/
namespace Go.AE.S
open Go Go.AE
set_option linter.unusedSimpArgs false
set_option linter.unusedVariables false
variable {τ : Tm} {σ : Store} {rd : Option Nat}

theorem shl_one {w : Int} (h1 : 0 < w) (h2 : w < 64) : IntKind.u64.wrap (1 * 2 ^ min w.toNat IntKind.u64.bits) = 2 ^ w.toNat := by
  have e : min w.toNat IntKind.u64.bits = w.toNat := Nat.min_eq_left (by show w.toNat ≤ 64; omega)
  rw [e, Int.one_mul]
  have hp : (0 : Int) < 2 ^ w.toNat := Int.pow_pos (by omega)
  have hlt : (2 : Int) ^ w.toNat ≤ 2 ^ 63 := by
    have := Nat.pow_le_pow_right (show 0 < 2 by omega) (show w.toNat ≤ 63 by omega)
    exact_mod_cast this
  exact IntWalk.u64_in _ ⟨by omega, by omega⟩
theorem u64_id {w : Int} (h : 0 ≤ w) (h' : w ≤ 18446744073709551615) : IntKind.u64.wrap w = w := IntWalk.u64_in _ ⟨h, h'⟩
theorem s_r04_leaf (o w v : Int) (hv : 0 ≤ v ∧ v ≤ 18446744073709551615) : R P f_r04_leaf [.int .i64 o, .int .i64 w, .int .u64 v] = some (two (leafW o w v)) := by
  (rw [r_r04_leaf (Nat.le_of_ble_eq_true rfl), F_r04_leaf]; simp (disch := omega) only [eqs, eqL, ↓gc_len, seval, -List.reduceReplicate, reduceCtorEq, omap, depth, pcall, pureR, freezeFor, freezeAll, tupR, resV, purR, enterTm, number, gcOk, rangeEnd, mkTup, allP, q_r04_width, s_r04_width])
  by_cases h1 : 0 ≤ w ∧ w ≤ 64
  rotate_left
  · simp (disch := omega) only [eqs, eqL, ↓gc_len, seval, -List.reduceReplicate, reduceCtorEq, omap, depth, pcall, pureR, freezeFor, freezeAll, tupR, resV, purR, enterTm, number, gcOk, rangeEnd, mkTup, allP, h1]
    simp [leafW, h1, two]
  by_cases h2 : o = 2
  rotate_left
  · simp (disch := omega) only [eqs, eqL, ↓gc_len, seval, -List.reduceReplicate, reduceCtorEq, omap, depth, pcall, pureR, freezeFor, freezeAll, tupR, resV, purR, enterTm, number, gcOk, rangeEnd, mkTup, allP, h1, h2]
    simp [leafW, h1, h2, two]
  by_cases h3 : 0 < w
  rotate_left
  · simp (disch := omega) only [eqs, eqL, ↓gc_len, seval, -List.reduceReplicate, reduceCtorEq, omap, depth, pcall, pureR, freezeFor, freezeAll, tupR, resV, purR, enterTm, number, gcOk, rangeEnd, mkTup, allP, h1, h2, h3]
    simp [leafW, h1, h2, two, h3]
  by_cases h4 : w < 64
  · have hu := u64_id (w := w) (by omega) (by omega)
    have hs := shl_one h3 h4
    by_cases h5 : (2 : Int) ^ w.toNat ≤ v
    · simp (disch := omega) only [eqs, eqL, ↓gc_len, seval, -List.reduceReplicate, reduceCtorEq, omap, depth, pcall, pureR, freezeFor, freezeAll, tupR, resV, purR, enterTm, number, gcOk, rangeEnd, mkTup, allP, h1, h2, h3, h4, hu, v_shl, hs, h5]
      simp [leafW, h1, h2, h3, two, h5]
    · simp (disch := omega) only [eqs, eqL, ↓gc_len, seval, -List.reduceReplicate, reduceCtorEq, omap, depth, pcall, pureR, freezeFor, freezeAll, tupR, resV, purR, enterTm, number, gcOk, rangeEnd, mkTup, allP, h1, h2, h3, h4, hu, v_shl, hs, h5]
      simp [leafW, h1, h2, h3, two, h5]
  · have e : w = 64 := by omega
    subst e
    simp (disch := omega) only [eqs, eqL, ↓gc_len, seval, -List.reduceReplicate, reduceCtorEq, omap, depth, pcall, pureR, freezeFor, freezeAll, tupR, resV, purR, enterTm, number, gcOk, rangeEnd, mkTup, allP, h1, h2, h3, h4]
    have : ¬ (2 : Int) ^ (64 : Int).toNat ≤ v := by
      have : (2 : Int) ^ (64 : Int).toNat = 18446744073709551616 := by decide
      omega
    simp [leafW, h2, two, show ¬ 18446744073709551616 ≤ v by omega]
theorem s_r04_parts (o w v f : Int) (hf : -9223372036854775808 ≤ f ∧ f ≤ 9223372036854775807) : R P f_r04_parts [.int .i64 o, .int .i64 w, .int .u64 v, .int .i64 f] = some (two (sizeW o w v f)) := by
  (rw [r_r04_parts (Nat.le_of_ble_eq_true rfl), F_r04_parts]; simp (disch := omega) only [eqs, eqL, ↓gc_len, seval, -List.reduceReplicate, reduceCtorEq, omap, depth, pcall, pureR, freezeFor, freezeAll, tupR, resV, purR, enterTm, number, gcOk, rangeEnd, mkTup, allP, q_r04_width, s_r04_width])
  by_cases h0 : 0 ≤ w ∧ w ≤ 64
  rotate_left
  · simp (disch := omega) only [eqs, eqL, ↓gc_len, seval, -List.reduceReplicate, reduceCtorEq, omap, depth, pcall, pureR, freezeFor, freezeAll, tupR, resV, purR, enterTm, number, gcOk, rangeEnd, mkTup, allP, h0]
    rw [sizeW, if_pos (by omega)]; rfl
  by_cases h1 : w < 1
  · simp (disch := omega) only [eqs, eqL, ↓gc_len, seval, -List.reduceReplicate, reduceCtorEq, omap, depth, pcall, pureR, freezeFor, freezeAll, tupR, resV, purR, enterTm, number, gcOk, rangeEnd, mkTup, allP, h0, h1]
    simp [sizeW, h1, two]
  by_cases h3 : f < 1
  · simp (disch := omega) only [eqs, eqL, ↓gc_len, seval, -List.reduceReplicate, reduceCtorEq, omap, depth, pcall, pureR, freezeFor, freezeAll, tupR, resV, purR, enterTm, number, gcOk, rangeEnd, mkTup, allP, h0, h1, h3]
    simp [sizeW, h3, two]
  have h2 : ¬ 64 < w := by omega
  by_cases h4 : o = 21
  · by_cases h5 : f < w
    · simp (disch := omega) only [eqs, eqL, ↓gc_len, seval, -List.reduceReplicate, reduceCtorEq, omap, depth, pcall, pureR, freezeFor, freezeAll, tupR, resV, purR, enterTm, number, gcOk, rangeEnd, mkTup, allP, h0, h1, h3, h4, h5]
      simp [sizeW, h4, h5, two]
    · have hc := conv_diff (f := f) (w := w) hf.2 (by omega) (by omega)
      by_cases h6 : f - w < v
      · simp (disch := omega) only [eqs, eqL, ↓gc_len, seval, -List.reduceReplicate, reduceCtorEq, omap, depth, pcall, pureR, freezeFor, freezeAll, tupR, resV, purR, enterTm, number, gcOk, rangeEnd, mkTup, allP, h0, h1, h3, h4, h5, hc, h6]
        simp [sizeW, h4, h6, two]
      · simp (disch := omega) only [eqs, eqL, ↓gc_len, seval, -List.reduceReplicate, reduceCtorEq, omap, depth, pcall, pureR, freezeFor, freezeAll, tupR, resV, purR, enterTm, number, gcOk, rangeEnd, mkTup, allP, h0, h1, h3, h4, h5, hc, h6]
        simp [sizeW, h1, h2, h3, h4, h5, h6, two]
  · by_cases h5 : w < f
    · simp (disch := omega) only [eqs, eqL, ↓gc_len, seval, -List.reduceReplicate, reduceCtorEq, omap, depth, pcall, pureR, freezeFor, freezeAll, tupR, resV, purR, enterTm, number, gcOk, rangeEnd, mkTup, allP, h0, h1, h3, h4, h5]
      simp [sizeW, h4, h5, two]
    · simp (disch := omega) only [eqs, eqL, ↓gc_len, seval, -List.reduceReplicate, reduceCtorEq, omap, depth, pcall, pureR, freezeFor, freezeAll, tupR, resV, purR, enterTm, number, gcOk, rangeEnd, mkTup, allP, h0, h1, h3, h4, h5]
      simp [sizeW, h1, h2, h3, h4, h5, two]
abbrev e_WidthR (o w v : Int) (as : List Int) (i : Int) : List (Nat × AV) := [(0, .p (.int .i64 o)), (1, .p (.int .i64 w)), (2, .p (.int .u64 v)), (3, .p (.lst (as.map irow))), (22, .p (.int .i64 as.length)), (23, .p (.int .i64 i))]
theorem l_r04_Width (o w v : Int) (as : List Int) (hl : as.length ≤ 1000000) : if as.all okW = true then
      loopAt P L0_r04_Width (e_WidthR o w v as 0) σ 133 rd = some (.exit 0, ⟨upd (tm (e_WidthR o w v as as.length)) 24 (.p (.bool false)), σ, 133, rd⟩)
    else ∃ r, loopAt P L0_r04_Width (e_WidthR o w v as 0) σ 133 rd = some r ∧ ret2 8 9 (.int .i64 0) (.int .i64 3) σ r := by
  have h := loop_foldE (P := P) (nt := 133) (rd := rd) (lv := [0, 1, 2, 3, 22, 23]) (b := B0_r04_Width) (x := 0) (as := as) (fun i (_ : Unit) => e_WidthR o w v as i) (fun _ => σ) (fun i _ a => if okW a = true then .inl () else .inr ())
    (fun _ => ⟨upd (tm (e_WidthR o w v as as.length)) 24 (.p (.bool false)), σ, 133, rd⟩) (fun _ => ret2 8 9 (.int .i64 0) (.int .i64 3) σ) (fun _ _ => True)
    (fun i a s ha hi hs => by
      refine ⟨fun _ _ => trivial, ?_⟩
      have hlt : ((i : Int) < as.length) = True := by simpa using hi
      by_cases hc : 0 ≤ a ∧ a ≤ 64
      · simp only [B0_r04_Width]
        simp (disch := omega) only [eqs, eqL, ↓gc_len, seval, -List.reduceReplicate, reduceCtorEq, omap, depth, pcall, pureR, freezeFor, freezeAll, tupR, resV, purR, enterTm, number, gcOk, rangeEnd, mkTup, allP, hlt, v_iadr (es := 1) (map_get (f := irow) ha) rfl, irow, q_r04_width, s_r04_width, okW, hc]
      · simp only [B0_r04_Width]
        simp (disch := omega) only [eqs, eqL, ↓gc_len, seval, -List.reduceReplicate, reduceCtorEq, omap, depth, pcall, pureR, freezeFor, freezeAll, tupR, resV, purR, enterTm, number, gcOk, rangeEnd, mkTup, allP, hlt, v_iadr (es := 1) (map_get (f := irow) ha) rfl, irow, q_r04_width, s_r04_width, okW, hc, ret2]) (fun s hs => by
      simp only [B0_r04_Width]
      simp (disch := omega) only [eqs, eqL, ↓gc_len, seval, -List.reduceReplicate, reduceCtorEq, omap, depth, pcall, pureR, freezeFor, freezeAll, tupR, resV, purR, enterTm, number, gcOk, rangeEnd, mkTup, allP, Int.lt_irrefl]) (fun i s => rfl) () trivial
  rw [fold_all] at h
  exact (done_if h :)
theorem s_r04_Width (o w v : Int) (as : List Int) (hl : as.length ≤ 1000000) (hv : 0 ≤ v ∧ v ≤ 18446744073709551615) :
    R P f_r04_Width [.int .i64 o, .int .i64 w, .int .u64 v, .lst (as.map irow)] = some (two (widthW o w v as)) := by
  by_cases hk : 1 ≤ o ∧ o ≤ 26
  rotate_left
  · (rw [r_r04_Width (Nat.le_of_ble_eq_true rfl), F_r04_Width]; simp (disch := omega) only [eqs, eqL, ↓gc_len, seval, -List.reduceReplicate, reduceCtorEq, omap, depth, pcall, pureR, freezeFor, freezeAll, tupR, resV, purR, enterTm, number, gcOk, rangeEnd, mkTup, allP, arity_none hk, q_r04_Arity, s_r04_Arity])
    simp [widthW, arity_none hk, two]
  have har := arity_some hk
  have hneg : ¬ arity o < 0 := by omega
  by_cases hn : (as.length : Int) = arity o
  rotate_left
  · (rw [r_r04_Width (Nat.le_of_ble_eq_true rfl), F_r04_Width]; simp (disch := omega) only [eqs, eqL, ↓gc_len, seval, -List.reduceReplicate, reduceCtorEq, omap, depth, pcall, pureR, freezeFor, freezeAll, tupR, resV, purR, enterTm, number, gcOk, rangeEnd, mkTup, allP, q_r04_Arity, s_r04_Arity, hneg, List.length_map, hn])
    simp [widthW, hn, two]
  have hn' := eq_true hn
  have hL := l_r04_Width (σ := []) (rd := none) o w v as hl
  by_cases ha : as.all okW = true
  rotate_left
  · rw [if_neg ha] at hL
    obtain ⟨⟨e, τ', σ', nt', rd'⟩, h1, h2, h3, h4, h5⟩ := hL
    simp only at h2 h3 h4 h5
    subst h2; subst h5
    (rw [r_r04_Width (Nat.le_of_ble_eq_true rfl), F_r04_Width]; simp (disch := omega) only [eqs, eqL, ↓gc_len, seval, -List.reduceReplicate, reduceCtorEq, omap, depth, pcall, pureR, freezeFor, freezeAll, tupR, resV, purR, enterTm, number, gcOk, rangeEnd, mkTup, allP, q_r04_Arity, s_r04_Arity, hneg, List.length_map, hn', k0_r04_Width])
    simp (disch := omega) only [eqs, eqL, ↓gc_len, seval, -List.reduceReplicate, reduceCtorEq, omap, depth, pcall, pureR, freezeFor, freezeAll, tupR, resV, purR, enterTm, number, gcOk, rangeEnd, mkTup, allP, h1, h3, h4]
    simp [widthW, hn, ha, two, hneg]
  rw [if_pos ha] at hL
  have ha0 : ∀ a : Int, a ∈ as → okW a = true := by simpa using ha
  have g : ∀ n : Nat, n < as.length → ∃ a, as[n]? = some a ∧ okW a = true := fun n h => ⟨as[n], List.getElem?_eq_getElem h, ha0 _ (List.getElem_mem h)⟩
  by_cases h0 : arity o = 0
  · rcases grp0 hk h0 with h | h | h | h <;> subst h <;> (rw [r_r04_Width (Nat.le_of_ble_eq_true rfl), F_r04_Width]; simp (disch := omega) only [eqs, eqL, ↓gc_len, seval, -List.reduceReplicate, reduceCtorEq, omap, depth, pcall, pureR, freezeFor, freezeAll, tupR, resV, purR, enterTm, number, gcOk, rangeEnd, mkTup, allP, q_r04_Arity, s_r04_Arity, hneg, List.length_map, hn', k0_r04_Width, hL, q_r04_Leaf, s_r04_Leaf, q_r04_leaf, s_r04_leaf _ _ _ hv, two]) <;> simp [widthW, hn, ha, two, h0]
  by_cases h1 : arity o = 1
  · obtain ⟨a, ga, gb⟩ := g 0 (by omega)
    have ab : -9223372036854775808 ≤ a ∧ a ≤ 9223372036854775807 := by simp only [okW, decide_eq_true_eq] at gb; omega
    have i0 := v_ia0 (k := .i64) (σ := []) (es := 1) (map_get (f := irow) ga) rfl
    have l1 := eq_true (show (as.length : Int) = 1 by omega)
    rcases grp1 hk h1 with h | h | h | h | h | h <;> subst h <;> (rw [r_r04_Width (Nat.le_of_ble_eq_true rfl), F_r04_Width]; simp (disch := omega) only [eqs, eqL, ↓gc_len, seval, -List.reduceReplicate, reduceCtorEq, omap, depth, pcall, pureR, freezeFor, freezeAll, tupR, resV, purR, enterTm, number, gcOk, rangeEnd, mkTup, allP, q_r04_Arity, s_r04_Arity, hneg, List.length_map, hn', k0_r04_Width, hL, q_r04_Leaf, s_r04_Leaf, q_r04_parts, s_r04_parts _ _ _ _ ab, two, i0, irow, l1]) <;> simp [widthW, hn, ha, two, h1, ga]
  by_cases h3 : arity o = 3
  · obtain ⟨a, ga, _⟩ := g 0 (by omega)
    obtain ⟨b, gb, _⟩ := g 1 (by omega)
    obtain ⟨c, gc, _⟩ := g 2 (by omega)
    have i0 := v_ia0 (k := .i64) (σ := []) (es := 1) (map_get (f := irow) ga) rfl
    have i1 := v_ia1 (k := .i64) (σ := []) (es := 1) (map_get (f := irow) gb) rfl
    have i2 := v_ia2 (k := .i64) (σ := []) (es := 1) (map_get (f := irow) gc) rfl
    have l1 := eq_false (show ¬ (as.length : Int) = 1 by omega)
    have e := grp3 hk h3
    subst e
    by_cases c1 : a = 1 <;> by_cases c2 : b = c <;> (rw [r_r04_Width (Nat.le_of_ble_eq_true rfl), F_r04_Width]; simp (disch := omega) only [eqs, eqL, ↓gc_len, seval, -List.reduceReplicate, reduceCtorEq, omap, depth, pcall, pureR, freezeFor, freezeAll, tupR, resV, purR, enterTm, number, gcOk, rangeEnd, mkTup, allP, q_r04_Arity, s_r04_Arity, hneg, List.length_map, hn', k0_r04_Width, hL, q_r04_Leaf, s_r04_Leaf, two, i0, i1, i2, irow, l1, eq_true c1, eq_true c2, c1, c2]) <;> simp [widthW, hn, ha, two, h3, ga, gb, gc, c1, c2]
  have h2 : arity o = 2 := by omega
  obtain ⟨a, ga, oa⟩ := g 0 (by omega)
  obtain ⟨b, gb, ob⟩ := g 1 (by omega)
  have i0 := v_ia0 (k := .i64) (σ := []) (es := 1) (map_get (f := irow) ga) rfl
  have i1 := v_ia1 (k := .i64) (σ := []) (es := 1) (map_get (f := irow) gb) rfl
  have l1 := eq_false (show ¬ (as.length : Int) = 1 by omega)
  have hg := grp2 hk h2
  have hs := w64_sum oa ob
  by_cases h20 : o = 20
  · subst h20
    by_cases c1 : a < 1
    · (rw [r_r04_Width (Nat.le_of_ble_eq_true rfl), F_r04_Width]; simp (disch := omega) only [eqs, eqL, ↓gc_len, seval, -List.reduceReplicate, reduceCtorEq, omap, depth, pcall, pureR, freezeFor, freezeAll, tupR, resV, purR, enterTm, number, gcOk, rangeEnd, mkTup, allP, q_r04_Arity, s_r04_Arity, hneg, List.length_map, hn', k0_r04_Width, hL, q_r04_Leaf, s_r04_Leaf, two, i0, i1, irow, hs, l1, c1])
      simp [widthW, hn, ha, two, h2, ga, gb, c1, show ¬ 1 ≤ a by omega]
    by_cases c2 : b < 1
    · (rw [r_r04_Width (Nat.le_of_ble_eq_true rfl), F_r04_Width]; simp (disch := omega) only [eqs, eqL, ↓gc_len, seval, -List.reduceReplicate, reduceCtorEq, omap, depth, pcall, pureR, freezeFor, freezeAll, tupR, resV, purR, enterTm, number, gcOk, rangeEnd, mkTup, allP, q_r04_Arity, s_r04_Arity, hneg, List.length_map, hn', k0_r04_Width, hL, q_r04_Leaf, s_r04_Leaf, two, i0, i1, irow, hs, l1, c1, c2])
      simp [widthW, hn, ha, two, h2, ga, gb, c1, show ¬ 1 ≤ b by omega]
    by_cases c3 : 64 < a + b
    · (rw [r_r04_Width (Nat.le_of_ble_eq_true rfl), F_r04_Width]; simp (disch := omega) only [eqs, eqL, ↓gc_len, seval, -List.reduceReplicate, reduceCtorEq, omap, depth, pcall, pureR, freezeFor, freezeAll, tupR, resV, purR, enterTm, number, gcOk, rangeEnd, mkTup, allP, q_r04_Arity, s_r04_Arity, hneg, List.length_map, hn', k0_r04_Width, hL, q_r04_Leaf, s_r04_Leaf, two, i0, i1, irow, hs, l1, c1, c2, c3])
      simp [widthW, hn, ha, two, h2, ga, gb, show ¬ a + b ≤ 64 by omega]
    · (rw [r_r04_Width (Nat.le_of_ble_eq_true rfl), F_r04_Width]; simp (disch := omega) only [eqs, eqL, ↓gc_len, seval, -List.reduceReplicate, reduceCtorEq, omap, depth, pcall, pureR, freezeFor, freezeAll, tupR, resV, purR, enterTm, number, gcOk, rangeEnd, mkTup, allP, q_r04_Arity, s_r04_Arity, hneg, List.length_map, hn', k0_r04_Width, hL, q_r04_Leaf, s_r04_Leaf, two, i0, i1, irow, hs, l1, c1, c2, c3])
      simp [widthW, hn, ha, two, h2, ga, gb, show 1 ≤ a by omega, show 1 ≤ b by omega, show a + b ≤ 64 by omega]
  by_cases h16 : o = 16 ∨ o = 17 ∨ o = 18
  · rcases h16 with h | h | h <;> subst h <;> by_cases c1 : a = b <;> (rw [r_r04_Width (Nat.le_of_ble_eq_true rfl), F_r04_Width]; simp (disch := omega) only [eqs, eqL, ↓gc_len, seval, -List.reduceReplicate, reduceCtorEq, omap, depth, pcall, pureR, freezeFor, freezeAll, tupR, resV, purR, enterTm, number, gcOk, rangeEnd, mkTup, allP, q_r04_Arity, s_r04_Arity, hneg, List.length_map, hn', k0_r04_Width, hL, q_r04_Leaf, s_r04_Leaf, two, i0, i1, irow, l1, eq_true c1, c1]) <;> simp [widthW, hn, ha, two, h2, ga, gb, c1]
  · have h16' := not_or.1 h16
    have h17' := not_or.1 h16'.2
    by_cases c1 : a = b <;> (rw [r_r04_Width (Nat.le_of_ble_eq_true rfl), F_r04_Width]; simp (disch := omega) only [eqs, eqL, ↓gc_len, seval, -List.reduceReplicate, reduceCtorEq, omap, depth, pcall, pureR, freezeFor, freezeAll, tupR, resV, purR, enterTm, number, gcOk, rangeEnd, mkTup, allP, q_r04_Arity, s_r04_Arity, hneg, List.length_map, hn', k0_r04_Width, hL, q_r04_Leaf, s_r04_Leaf, two, i0, i1, irow, l1, eq_true c1, c1, hg, h20, h16'.1, h17'.1, h17'.2]) <;> simp [widthW, hn, ha, two, h2, ga, gb, c1, hg, h20, h16]
end Go.AE.S
