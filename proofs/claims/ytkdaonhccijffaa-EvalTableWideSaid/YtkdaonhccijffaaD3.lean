/- The reference's variables, plainly. --M-- -/
import Derived.Test.YtkdaonhccijffaaC2
import Derived.Test.YtkdaonhccijffaaD2
import Derived.Test.YtkdaonhccijffaaC0
namespace Go.AE.S
open Go Go.AE
set_option linter.unusedSimpArgs false
set_option linter.unusedVariables false
def posN (n : ByteArray) : List V2 → Nat
  | [] => 0
  | a :: r => if slt a.name n = true then posN n r + 1 else 0
def hitN (n : ByteArray) (s : List V2) : Bool := match s[posN n s]? with | some a => decide (a.name = n) | none => false
def insU (s : List V2) (u : Term) : List V2 := if u.op = 1 then if hitN u.name s = true then s else s.take (posN u.name s) ++ [⟨u.name, u.w⟩] ++ s.drop (posN u.name s) else s
theorem insU_eq (s : List V2) (u : Term) : insU s u = if u.op = 1 then insV s ⟨u.name, u.w⟩ else s := by
  unfold insU
  by_cases h1 : u.op = 1
  · rw [if_pos h1, if_pos h1]
    induction s with
    | nil => rfl
    | cons a r ih =>
      unfold insV
      by_cases h2 : a.name = u.name
      · have h3 : ¬ slt a.name u.name = true := by rw [h2, slt_irrefl]; simp
        have h4 : posN u.name (a :: r) = 0 := by unfold posN; rw [if_neg h3]
        rw [if_pos h2, if_pos (by unfold hitN; rw [h4]; simp [h2])]
      · rw [if_neg h2]
        by_cases h3 : slt u.name a.name = true
        · have h4 : posN u.name (a :: r) = 0 := by unfold posN; rw [if_neg (by rw [slt_asym h3]; simp)]
          rw [if_pos h3, if_neg (by unfold hitN; rw [h4]; simp [h2]), h4]
          rfl
        · have h5 : slt a.name u.name = true := by
            rcases slt_tri a.name u.name with h | h | h
            · exact h
            · exact absurd h h2
            · exact absurd h h3
          have h4 : posN u.name (a :: r) = posN u.name r + 1 := by conv => lhs; unfold posN; rw [if_pos h5]
          have h6 : hitN u.name (a :: r) = hitN u.name r := by unfold hitN; rw [h4]; rfl
          rw [if_neg h3, ← ih, h6, h4]
          by_cases h7 : hitN u.name r = true
          · rw [if_pos h7, if_pos h7]
          · rw [if_neg h7, if_neg h7]; rfl
  · rw [if_neg h1, if_neg h1]
theorem insV_iff : ∀ {s : List V2} {v x : V2}, Sorted s → (x ∈ insV s v ↔ x ∈ s ∨ (x = v ∧ ∀ a ∈ s, a.name ≠ v.name))
  | [], v, x, _ => by simp [insV]
  | a :: r, v, x, hs => by
    have hs' := List.pairwise_cons.1 hs
    unfold insV
    split
    · rename_i h2
      constructor
      · exact .inl
      · rintro (h | ⟨_, h⟩)
        · exact h
        · exact absurd h2 (h a (by simp))
    · rename_i h2
      split
      · rename_i h3
        have hno : ∀ b ∈ a :: r, b.name ≠ v.name := by
          intro b hb e
          rcases List.mem_cons.1 hb with rfl | hb
          · exact h2 e
          · have := hs'.1 b hb
            rw [e, slt_asym h3] at this
            cases this
        rw [List.mem_cons]
        constructor
        · rintro (h | h)
          · exact .inr ⟨h, hno⟩
          · exact .inl h
        · rintro (h | ⟨h, _⟩)
          · exact .inr h
          · exact .inl h
      · rw [List.mem_cons, List.mem_cons, insV_iff hs'.2]
        constructor
        · rintro (h | h | ⟨h, h'⟩)
          · exact .inl (.inl h)
          · exact .inl (.inr h)
          · refine .inr ⟨h, fun b hb => ?_⟩
            rcases List.mem_cons.1 hb with rfl | hb
            · exact h2
            · exact h' b hb
        · rintro ((h | h) | ⟨h, h'⟩)
          · exact .inl h
          · exact .inr (.inl h)
          · exact .inr (.inr ⟨h, fun b hb => h' b (by simp [hb])⟩)
theorem addU_iff {s : List V2} {u : Term} {x : V2} : x ∈ addU s u ↔ x ∈ s ∨ (u.op = 1 ∧ x = ⟨u.name, u.w⟩ ∧ ∀ a ∈ s, a.name ≠ u.name) := by
  unfold addU
  have hany : s.any (isV u) = false ↔ ∀ a ∈ s, a.name ≠ u.name := by
    rw [List.any_eq_false]
    constructor
    · intro h a ha e; exact h a ha (decide_eq_true e)
    · intro h a ha e; exact h a ha (of_decide_eq_true e)
  split
  · rename_i h
    simp only [List.mem_append, List.mem_singleton]
    constructor
    · rintro (h' | h')
      · exact .inl h'
      · exact .inr ⟨h.1, h', hany.1 h.2⟩
    · rintro (h' | ⟨_, h', _⟩)
      · exact .inl h'
      · exact .inr h'
  · rename_i h
    constructor
    · exact .inl
    · rintro (h' | ⟨h1, _, h2⟩)
      · exact h'
      · exact absurd ⟨h1, hany.2 h2⟩ h
theorem insU_sorted {s : List V2} {u : Term} (h : Sorted s) : Sorted (insU s u) := by
  rw [insU_eq]
  split
  · exact insV_sorted h
  · exact h
theorem insUs_sorted : ∀ {l : List Term} {s : List V2}, Sorted s → Sorted (l.foldl insU s)
  | [], _, h => h
  | u :: l, s, h => insUs_sorted (l := l) (insU_sorted h)
theorem both_mem : ∀ {l : List Term} {s m : List V2}, Sorted m → (∀ x, x ∈ s ↔ x ∈ m) → ∀ x, x ∈ l.foldl addU s ↔ x ∈ l.foldl insU m
  | [], s, m, _, h => h
  | u :: l, s, m, hm, h => by
    refine both_mem (l := l) (insU_sorted hm) fun x => ?_
    rw [addU_iff, insU_eq]
    by_cases h1 : u.op = 1
    · rw [if_pos h1, insV_iff hm, h x]
      constructor
      · rintro (h' | ⟨_, h', h2⟩)
        · exact .inl h'
        · exact .inr ⟨h', fun a ha => h2 a ((h a).2 ha)⟩
      · rintro (h' | ⟨h', h2⟩)
        · exact .inl h'
        · exact .inr ⟨h1, h', fun a ha => h2 a ((h a).1 ha)⟩
    · rw [if_neg h1, h x]
      constructor
      · rintro (h' | ⟨h', _⟩)
        · exact h'
        · exact absurd h' h1
      · exact .inl
/-- The program's and the reference's variables are the same. -/
theorem varsT_eq (t : Term) : varsT t = t.pre.foldl insU [] := by
  refine sort_uniq (isort_sort (addUs_dist (by simp [DistN]))) (insUs_sorted (by simp [Sorted])) fun x => ?_
  rw [varsT, isort_mem]
  exact both_mem (by simp [Sorted]) (fun x => Iff.rfl) x
end Go.AE.S
/- The reference's variables, walked. --M-- -/
namespace Go.AE.S
open Go Go.AE
set_option linter.unusedSimpArgs false
set_option linter.unusedVariables false
variable {τ : Tm} {σ : Store} {rd : Option Nat}
/-! ### the search -/
end Go.AE.S
/- The reference's variables, walked: the loop. --M-- -/
namespace Go.AE.S
open Go Go.AE
set_option linter.unusedSimpArgs false
set_option linter.unusedVariables false
variable {τ : Tm} {σ : Store} {rd : Option Nat}
theorem insU_len {s : List V2} {u : Term} : (insU s u).length ≤ s.length + 1 := by
  rw [insU_eq]
  split
  · exact insV_len _ _
  · omega
theorem insUs_len : ∀ {l : List Term} {s : List V2}, (l.foldl insU s).length ≤ s.length + l.length
  | [], s => by simp
  | u :: l, s => by
    have h1 := insUs_len (l := l) (s := insU s u)
    have h2 := insU_len (s := s) (u := u)
    simp only [List.foldl_cons, List.length_cons]
    omega
end Go.AE.S
/- Values of terms, by the program. --M-- -/
namespace Go.AE.S
open Go Go.AE
set_option linter.unusedSimpArgs false
set_option linter.unusedVariables false
variable {τ : Tm} {σ : Store} {rd : Option Nat}
/-- All nodes are without an error. -/
def AllOk (t : Term) : Prop := ∀ u ∈ t.post, nodeN u = 0
theorem allOk_self {t : Term} (h : AllOk t) : NodeOk t := nodeok8 (h t ((mem_post t t).2 (mem_pre.2 (.inl rfl))))
theorem allOk_arg {t a : Term} (h : AllOk t) (ha : a ∈ t.args) : AllOk a := fun u hu => h u ((mem_post t u).2 (mem_pre.2 (.inr ⟨a, ha, (mem_post a u).1 hu⟩)))
theorem val_ok (E : ByteArray → Nat) (t : Term) : AllOk t → TOk t → t.valT E < 2 ^ cw t.w ∧ (t.op ≠ 1 → ArOk t.op t.args.length ∧ InW (Term.valsT E t.args) ∧ ∀ x, Term.valsT E t.args = [x] → t.op = 3 ∨ t.op = 4 → cw t.w = cw x.w) := by
  induction t using Term.ind with
  | h t ih =>
  intro h ht
  have hn := allOk_self h
  have hin : InW (Term.valsT E t.args) := by
    rw [Term.valsT_map]
    intro x hx
    obtain ⟨a, ha, rfl⟩ := List.mem_map.1 hx
    exact (ih a ha (allOk_arg h ha) (ht.args ha)).1
  rw [Term.valT_eq]
  by_cases h1 : t.op = 1
  · rw [if_pos h1]
    exact ⟨Nat.mod_lt _ (Nat.pow_pos (by omega)), fun h => absurd h1 h⟩
  · rw [if_neg h1]
    have har := ar_ok hn.ar h1
    have hlen : (Term.valsT E t.args).length = t.args.length := by rw [Term.valsT_map]; simp
    have hm : (Term.valsT E t.args).map (·.w) = t.args.map Term.w := by rw [Term.valsT_map, List.map_map]; rfl
    have := comp_lt hn.w h1 ht.v.1 (by rw [hlen]; exact har) (by rw [hm]; exact hn.wd) hin
    exact ⟨this.1, fun _ => ⟨har, hin, this.2⟩⟩
theorem val_W (E : ByteArray → Nat) {t : Term} (h : AllOk t) (ht : TOk t) : W (t.valT E) := Nat.lt_of_lt_of_le (val_ok E t h ht).1 (pow_c (cw_in t.w).2)
abbrev sV8 (s : List Wd) : Store := [.gone, .pv 2 (s.map wdrow) false]
abbrev e_ev (g : AV) (t : Term) (s : List Wd) (i : Int) : List (Nat × AV) := [(1, g), (2, .p (.ptr t.row 0)), (6, .sl 1 s.length), (20, .p (.lst (t.args.map Term.row))), (21, .p (.int .i64 t.args.length)), (22, .p (.int .i64 i))]
theorem bsl_w {w v : Int} : bsliceV σ 2 1 (fillP (List.replicate 1 [.p (.int .i64 0), .p (.int .u64 0)]).flatten [(0, 2, .p (.agg [.int .i64 w, .int .u64 v]))]) = some (.sl σ.length 1, σ ++ [.pv 2 [[.int .i64 w, .int .u64 v]] false]) := rfl
theorem bld_w {w v : Int} : buildV [.p (.int .i64 0), .p (.int .u64 0)] [(0, 1, .p (.int .i64 w)), (1, 1, .p (.int .u64 v))] = some (.p (.agg [.int .i64 w, .int .u64 v])) := rfl
theorem al_6 : allocV 6 (eagers [.p (.int .i64 0), .p (.int .u64 0), .p (.int .i64 0), .p (.int .u64 0), .p (.int .i64 0), .p (.int .u64 0)] σ) = some (.ptr σ.length 1 0 0, σ ++ [.pv 6 [[.int .i64 0, .int .u64 0, .int .i64 0, .int .u64 0, .int .i64 0, .int .u64 0]] false]) := rfl
theorem slc_6 : slcAV [.pv 6 [[.int .i64 0, .int .u64 0, .int .i64 0, .int .u64 0, .int .i64 0, .int .u64 0]] false] 3 2 (.ptr 0 1 0 0) none (some (.p (.int .i64 0))) none = some (.sl 1 0, [.gone, .pv 2 [] false]) := rfl
theorem pur_1 (k : Nat) (o : Obj) (rows : List (List PV)) (e : Nat) (fr : Bool) : purify [o, .pv e rows fr] (k + 1) (.sl 1 rows.length) = some (.lst rows) := by simp [purify]
theorem gone_below (n : Nat) : Obj.below n .gone = true := rfl
theorem src_21 {o o1 : Obj} {r : List PV} {fr : Bool} : srcOf [o, o1, .pv 2 [r] fr] 2 (.sl 2 1) = some (.inl [r]) := src_sl rfl rfl (.inl rfl)
set_option maxHeartbeats 8000000 in
theorem s_eval_valueX (f : FuncId) (cap : List PV) (E : ByteArray → Nat) (hE : ∀ n, W (E n)) (t : Term) :
    (∀ u ∈ t.post, ∀ σ : Store, u.op = 1 → callV P (.p (.fn f cap)) [.p (.agg u.row)] σ = some (.p (.int .u64 (E u.name : Int)), σ)) → AllOk t → TOk t → t.count ≤ 1000000 → R P f_eval_value [.agg t.row, .fn f cap] = some (.int .u64 (t.valT E : Int)) := by
  induction t using Term.ind with
  | h t ih =>
  intro hf h ht hc
  rw [Term.valT_eq]
  by_cases h1 : t.op = 1
  · rw [if_pos h1]
    have e1 : (t.op = 1) = True := by simp [h1]
    have hv := fun σ => hf t ((mem_post t t).2 (mem_pre.2 (.inl rfl))) σ h1
    have hcut := n_Cut t.w (E t.name) (hE _)
    (rw [r_eval_value (Nat.le_of_ble_eq_true rfl), F_eval_value]; simp (disch := omega) only [eqs, eqL, ↓gc_len, seval, -List.reduceReplicate, reduceCtorEq, omap, depth, pcall, pureR, freezeFor, freezeAll, tupR, resV, purR, enterTm, number, gcOk, rangeEnd, mkTup, allP, eqM, e1, hv, q_bits_Cut, hcut, regD_go, regD_some, regOk, apartOk, pureRead, blkOf, noNils, Bool.true_or, Bool.or_true])
  · rw [if_neg h1]
    have e1 : (t.op = 1) = False := by simp [h1]
    have hct := Term.count_eq t
    have hlen := Term.counts_len t.args
    obtain ⟨har, hin, _⟩ := (val_ok E t h ht).2 h1
    obtain ⟨hk, hl⟩ := loop_run (P := P) (nt := 44) (lv := [1, 2, 6, 20, 21, 22]) (b := B0_eval_value) (rd := none) (as := t.args) (fun i (s : List Wd) => e_ev (.p (.fn f cap)) t s i) sV8 (fun _ s a => s ++ [⟨a.w, a.valT E⟩]) (fun i s => s.length = i)
      (fun i a s ha hi hs => by
        have hm := List.mem_of_getElem? ha
        have hac := Term.counts_mem hm
        have hr := ih a hm (fun u hu => hf u ((mem_post t u).2 (mem_pre.2 (.inr ⟨a, hm, (mem_post a u).1 hu⟩)))) (allOk_arg h hm) (ht.args hm) (by omega)
        have hlt : ((i : Int) < t.args.length) = True := by simpa using hi
        have hx := fun σ => v_iadr (k := .i64) (es := 5) (σ := σ) (map_get (f := Term.row) ha) a.row_len
        have hap := v_append (σ := [.gone, .pv 2 (s.map wdrow) false, .pv 2 [[.int .i64 a.w, .int .u64 (a.valT E : Int)]] false]) (b := 1) (n := s.length) (e := 2) (es := 2) (bytes := 16) (rows := s.map wdrow) (new := [[.int .i64 a.w, .int .u64 (a.valT E : Int)]]) rfl (by simp) (.inl rfl) (by simp only [List.length_cons, List.length_nil]; omega)
        refine ⟨by simp [hs], ?_⟩
        simp only [B0_eval_value]
        simp (disch := omega) only [eqs, eqL, ↓gc_len, seval, -List.reduceReplicate, reduceCtorEq, omap, depth, pcall, pureR, freezeFor, freezeAll, tupR, resV, purR, enterTm, number, gcOk, rangeEnd, mkTup, allP, eqM, hlt, hx, q_eval_value, hr, bld_w, bsl_w, src_21, hap, List.length_map, List.length_append, List.map_append, gone_below, wdrow, e_ev, sV8]) (fun i s => rfl) [] rfl _ (fold_snoc (fun a => (⟨a.w, a.valT E⟩ : Wd)) t.args 0 [])
    have hv : ([] : List Wd) ++ t.args.map (fun a => (⟨a.w, a.valT E⟩ : Wd)) = Term.valsT E t.args := by rw [Term.valsT_map]; rfl
    rw [hv] at hl
    have hvl : (Term.valsT E t.args).length = t.args.length := by rw [Term.valsT_map]; simp
    have hvN : ((t.v.toNat : Nat) : Int) = t.v := by have := ht.v.1; omega
    have hcomp := n_compute t.op t.w t.v.toNat (Term.valsT E t.args) (by rw [hvl]; exact har) (by have := ht.v; unfold U64 at this; show _ < _; omega) (fun x hx => Nat.lt_of_lt_of_le (hin x hx) (pow_c (cw_in x.w).2))
    rw [hvN] at hcomp
    have hl' : loopAt P L0_eval_value [(1, .p (.fn f cap)), (2, .p (.ptr t.row 0)), (6, .sl 1 0), (20, .p (.lst (t.args.map Term.row))), (21, .p (.int .i64 t.args.length)), (22, .p (.int .i64 0))] [.gone, .pv 2 [] false] 44 none = _ := hl
    have hP := fun k o => pur_1 k o ((Term.valsT E t.args).map wdrow) 2 false
    rw [List.length_map] at hP
    generalize Term.valsT E t.args = vs at *
    (rw [r_eval_value (Nat.le_of_ble_eq_true rfl), F_eval_value]; simp (disch := omega) only [eqs, eqL, ↓gc_len, seval, -List.reduceReplicate, reduceCtorEq, omap, depth, pcall, pureR, freezeFor, freezeAll, tupR, resV, purR, enterTm, number, gcOk, rangeEnd, mkTup, allP, eqM, e1, al_6, slc_6, List.length_map, k0_eval_value, hl', B0_eval_value, Int.lt_irrefl, hP, q_eval_compute, hcomp, e_ev, sV8])
theorem s_eval_value (f : FuncId) (cap : List PV) (E : ByteArray → Nat) (hE : ∀ n, W (E n)) (hf : ∀ (u : Term) (σ : Store), u.op = 1 → callV P (.p (.fn f cap)) [.p (.agg u.row)] σ = some (.p (.int .u64 (E u.name : Int)), σ)) (t : Term) (h : AllOk t) (ht : TOk t) (hc : t.count ≤ 1000000) : R P f_eval_value [.agg t.row, .fn f cap] = some (.int .u64 (t.valT E : Int)) := s_eval_valueX f cap E hE t (fun u _ σ h1 => hf u σ h1) h ht hc
end Go.AE.S
/- Environments; values of terms, by the reference. --M-- -/
namespace Go.AE.S
open Go Go.AE
set_option linter.unusedSimpArgs false
set_option linter.unusedVariables false
variable {τ : Tm} {σ : Store} {rd : Option Nat}
structure Bd where
  name : ByteArray
  v : Nat
def brow (b : Bd) : List PV := [.str b.name, .int .u64 (b.v : Int)]
/-- The first entry of a name. -/
def lookB (n : ByteArray) : List Bd → Option Nat
  | [] => none
  | b :: r => if b.name = n then some b.v else lookB n r
theorem b_len (b : Bd) : (brow b).length = 2 := rfl
theorem b_f0 {b : Bd} : fadrV 0 (.p (.ptr (brow b) 0)) = some (.p (.ptr (brow b) 0)) := rfl
theorem b_f1 {b : Bd} : fadrV 1 (.p (.ptr (brow b) 0)) = some (.p (.ptr (brow b) 1)) := rfl
theorem b_g0 {b : Bd} : (brow b)[0]? = some (.str b.name) := rfl
theorem b_g1 {b : Bd} : (brow b)[1]? = some (.int .u64 (b.v : Int)) := rfl
/-- All variables have entries. -/
def boundB (l : List Bd) (t : Term) : Bool := t.post.all fun u => decide (¬ u.op = 1) || (lookB u.name l).isSome
def envB (l : List Bd) (n : ByteArray) : Nat := (lookB n l).getD 0
theorem env_W (l : List Bd) (hl : ∀ b ∈ l, W b.v) (n : ByteArray) : W (envB l n) := by
  unfold envB
  induction l with
  | nil => exact (by omega : (0 : Nat) < 18446744073709551616)
  | cons b r ih =>
    unfold lookB
    split
    · exact hl b (by simp)
    · exact ih fun c hc => hl c (by simp [hc])
end Go.AE.S
/- Eval. --M-- -/
namespace Go.AE.S
open Go Go.AE
set_option linter.unusedSimpArgs false
set_option linter.unusedVariables false
variable {τ : Tm} {σ : Store} {rd : Option Nat}
theorem check_all {t : Term} (h : checkT t = 0) : AllOk t := by
  unfold checkT at h
  split at h
  · rw [ckE_eq] at h
    split at h
    · rename_i h0; exact absurd h h0
    · rename_i h0
      exact firstN_zero (Classical.not_not.1 h0)
  · cases h
def evalP (l : List Bd) (t : Term) : List PV := if checkT t = 0 then (if boundB l t = true then [.int .u64 (t.valT (envB l) : Int), .int .i64 0] else [.int .u64 0, .int .i64 12]) else [.int .u64 0, .int .i64 (checkT t)]
/-! ### the program's map -/
def entB (b : Bd) : PV × AV := (.str b.name, .p (.int .u64 (b.v : Int)))
def entP (b : Bd) : PV × PV := (.str b.name, .int .u64 (b.v : Int))
theorem find_B (k : ByteArray) : ∀ s : List Bd, findKey .str (.str k) (s.map entB) = some ((lookB k s).map fun w => .p (.int .u64 (w : Int)))
  | [] => rfl
  | e :: r => by
    simp only [List.map_cons, findKey, entB, eq_str, lookB]
    by_cases h : k = e.name
    · simp [h]
    · simp only [h, decide_false]
      rw [if_neg (fun e => h e.symm)]
      exact find_B k r
theorem find_P (k : ByteArray) : ∀ s : List Bd, findKey .str (.str k) (s.map entP) = some ((lookB k s).map fun w => .int .u64 (w : Int))
  | [] => rfl
  | e :: r => by
    simp only [List.map_cons, findKey, entP, eq_str, lookB]
    by_cases h : k = e.name
    · simp [h]
    · simp only [h, decide_false]
      rw [if_neg (fun e => h e.symm)]
      exact find_P k r
theorem set_B (b : Bd) : ∀ s : List Bd, lookB b.name s = none → setKey .str (.str b.name) (.p (.int .u64 (b.v : Int))) (s.map entB) = some ((s ++ [b]).map entB)
  | [], _ => rfl
  | e :: r, h => by
    unfold lookB at h
    split at h
    · cases h
    · rename_i hn
      have hne : ¬ b.name = e.name := fun x => hn x.symm
      have ih := set_B b r h
      simp only [List.map_cons, setKey, entB, eq_str, hne, decide_false, List.cons_append]
      have ih' : setKey .str (.str b.name) (.p (.int .u64 (b.v : Int))) (r.map fun b => ((.str b.name, .p (.int .u64 (b.v : Int))) : PV × AV)) = some ((r ++ [b]).map entB) := ih
      first
        | (rw [ih]; rfl)
        | (rw [ih']; rfl)
def addB (s : List Bd) (b : Bd) : List Bd := if (lookB b.name s).isSome = true then s else s ++ [b]
theorem look_app (n : ByteArray) (b : Bd) : ∀ s : List Bd, lookB n (s ++ [b]) = match lookB n s with | some v => some v | none => if b.name = n then some b.v else none
  | [] => by simp [lookB]
  | e :: r => by
    simp only [List.cons_append, lookB]
    split
    · rfl
    · exact look_app n b r
theorem look_addB (n : ByteArray) : ∀ (l s : List Bd), lookB n (l.foldl addB s) = match lookB n s with | some v => some v | none => lookB n l
  | [], s => by simp only [List.foldl_nil, lookB]; cases lookB n s <;> rfl
  | b :: l, s => by
    rw [List.foldl_cons, look_addB n l]
    unfold addB
    by_cases h : (lookB b.name s).isSome = true
    · rw [if_pos h]
      cases hs : lookB n s with
      | some v => rfl
      | none =>
        have : ¬ b.name = n := by rintro rfl; rw [hs] at h; simp at h
        simp only [lookB, if_neg this]
    · rw [if_neg h, look_app]
      cases hs : lookB n s with
      | some v => rfl
      | none =>
        simp only [lookB]
        by_cases hb : b.name = n
        · simp only [hb, if_true]
        · simp only [hb, if_false]
theorem look_all (n : ByteArray) (l : List Bd) : lookB n (l.foldl addB []) = lookB n l := look_addB n l []
theorem names_addU : ∀ (l : List Term) (s : List V2) (n : ByteArray), (∃ v ∈ l.foldl addU s, v.name = n) ↔ (∃ v ∈ s, v.name = n) ∨ ∃ u ∈ l, u.op = 1 ∧ u.name = n
  | [], s, n => by simp
  | u :: l, s, n => by
    rw [List.foldl_cons, names_addU l]
    constructor
    · rintro (⟨v, hv, hn⟩ | ⟨u', hu, h⟩)
      · rcases addU_iff.1 hv with h | ⟨h1, h2, _⟩
        · exact .inl ⟨v, h, hn⟩
        · subst h2; exact .inr ⟨u, by simp, h1, hn⟩
      · exact .inr ⟨u', by simp [hu], h⟩
    · rintro (⟨v, hv, hn⟩ | ⟨u', hu, h1, h2⟩)
      · exact .inl ⟨v, addU_iff.2 (.inl hv), hn⟩
      · rcases List.mem_cons.1 hu with rfl | hu
        · by_cases hex : ∃ a ∈ s, a.name = u'.name
          · obtain ⟨a, ha, hn⟩ := hex
            exact .inl ⟨a, addU_iff.2 (.inl ha), hn.trans h2⟩
          · exact .inl ⟨⟨u'.name, u'.w⟩, addU_iff.2 (.inr ⟨h1, rfl, fun a ha hn => hex ⟨a, ha, hn⟩⟩), h2⟩
        · exact .inr ⟨u', hu, h1, h2⟩
theorem vars_bound (l : List Bd) (t : Term) : (varsT t).all (fun v => (lookB v.name l).isSome) = boundB l t := by
  rw [Bool.eq_iff_iff, List.all_eq_true]
  unfold boundB
  rw [List.all_eq_true]
  constructor
  · intro h u hu
    by_cases h1 : u.op = 1
    · obtain ⟨v, hv, hn⟩ := (names_addU t.pre [] u.name).2 (.inr ⟨u, (mem_post t u).1 hu, h1, rfl⟩)
      have := h v (isort_mem.2 hv)
      rw [hn] at this
      simp [this]
    · simp [h1]
  · intro h v hv
    rcases (names_addU t.pre [] v.name).1 ⟨v, isort_mem.1 hv, rfl⟩ with ⟨a, ha, _⟩ | ⟨u, hu, h1, h2⟩
    · simp at ha
    · have := h u ((mem_post t u).2 hu)
      simp only [h1, not_true_eq_false, decide_false, Bool.false_or] at this
      rw [h2] at this
      exact this
end Go.AE.S
/- Eval, by the program. --M-- -/
namespace Go.AE.S
open Go Go.AE
set_option linter.unusedSimpArgs false
set_option linter.unusedVariables false
variable {τ : Tm} {σ : Store} {rd : Option Nat}
abbrev sM8 (M : List Bd) : Store := [.map (M.map entB) false, .av 1 [[.map 0]] false]
theorem look_0 {es : List (PV × AV)} {fr : Bool} {r : Store} {kl : Leaf} {k : PV} {z : AV} {o : Option AV} (hl : isLeaf kl k = true) (h : findKey kl k es = some o) : lookupV (.map es fr :: r) kl z (.map 0) (.p k) true = some (mkTup [o.getD z, .p (.bool o.isSome)]) := by
  simp only [lookupV, lookV, List.getElem?_cons_zero, hl, if_true, h, Option.bind_some]
theorem look_p {es : List (PV × PV)} {kl : Leaf} {k : PV} {z : AV} {o : Option PV} (hl : isLeaf kl k = true) (h : findKey kl k es = some o) : lookupV σ kl z (.p (.pmap es)) (.p k) false = some ((o.map AV.p).getD z) := by
  simp [lookupV, lookV, hl, h]
theorem mupd_0 {es es' : List (PV × AV)} {r : Store} {kl : Leaf} {k : PV} {v : AV} (h : isLeaf kl k = true) (h' : setKey kl k v es = some es') : mupdV (.map es false :: r) kl (.map 0) (.p k) v = some (.any, .map es' false :: r) := by
  simp [mupdV, h, h']
theorem s_Eval1 (M : List Bd) (u : Term) : R P f_eval_Eval_1 [.agg u.row, .ptr [.pmap (M.map entP)] 0] = some (.int .u64 (envB M u.name : Int)) := by
  have hl := fun (σ : Store) (z : AV) => look_p (σ := σ) (z := z) (kl := .str) (k := .str u.name) rfl (find_P u.name M)
  unfold envB
  cases hk : lookB u.name M with
  | none =>
    rw [hk] at hl
    simp only [Option.map_none, Option.getD_none] at hl
    (rw [r_eval_Eval_1 (Nat.le_of_ble_eq_true rfl), F_eval_Eval_1]; simp (disch := omega) only [eqs, eqL, ↓gc_len, seval, -List.reduceReplicate, reduceCtorEq, omap, depth, pcall, pureR, freezeFor, freezeAll, tupR, resV, purR, enterTm, number, gcOk, rangeEnd, mkTup, allP, eqM, hl])
    rfl
  | some v =>
    rw [hk] at hl
    simp only [Option.map_some, Option.getD_some] at hl
    (rw [r_eval_Eval_1 (Nat.le_of_ble_eq_true rfl), F_eval_Eval_1]; simp (disch := omega) only [eqs, eqL, ↓gc_len, seval, -List.reduceReplicate, reduceCtorEq, omap, depth, pcall, pureR, freezeFor, freezeAll, tupR, resV, purR, enterTm, number, gcOk, rangeEnd, mkTup, allP, eqM, hl])
    rfl
abbrev e_ev0 (t : Term) (l : List Bd) (i : Int) : List (Nat × AV) := [(2, .p (.ptr t.row 0)), (7, .ptr 1 1 0 0), (22, .p (.lst (l.map brow))), (23, .p (.int .i64 l.length)), (24, .p (.int .i64 i))]
theorem ldM {M : List (PV × AV)} {fr fr' : Bool} {r : Store} : loadV (.map M fr :: .av 1 [[.map 0]] fr' :: r) 1 false (.ptr 1 1 0 0) = some (.map 0) := rfl
theorem b_ld {b : Bd} : loadV σ 2 true (.p (.ptr (brow b) 0)) = some (.p (.agg (brow b))) := rfl
theorem b_in {b : Bd} : initV σ 2 true (cellsOf 2 true (.p (.agg (brow b)))) = some (.p (.ptr (brow b) 0), σ) := rfl
theorem b_ce {b : Bd} : cellsOf 2 true (.p (.agg (brow b))) = some ((brow b).map .p) := rfl
theorem b_in2 {b : Bd} : initV σ 2 true (some ((brow b).map .p)) = some (.p (.ptr (brow b) 0), σ) := rfl
theorem ent_below (n : Nat) (s : List Bd) : ((s.map entB).all fun e => AE.below n e.2) = true := by
  rw [List.all_eq_true]
  intro x hx
  obtain ⟨e, _, rfl⟩ := List.mem_map.1 hx
  exact below_p
set_option maxHeartbeats 4000000 in
theorem l0_Eval (t : Term) (l : List Bd) (hl : l.length ≤ 9223372036854775807) : loopAt P L0_eval_Eval (e_ev0 t l 0) (sM8 []) 63 none = back P [2, 7, 22, 23, 24] B0_eval_Eval 2 (exec P B0_eval_Eval ⟨tm (e_ev0 t l l.length), sM8 (l.foldl addB []), 63, none⟩) := by
  obtain ⟨_, h⟩ := loop_run (P := P) (nt := 63) (lv := [2, 7, 22, 23, 24]) (b := B0_eval_Eval) (rd := none) (as := l) (fun i (_ : List Bd) => e_ev0 t l i) sM8 (fun _ s b => addB s b) (fun _ _ => True)
    (fun i b s hb hi hs => by
      refine ⟨trivial, ?_⟩
      have hlt : ((i : Int) < l.length) = True := by simpa using hi
      have hx := fun σ => v_iadr (k := .i64) (es := 2) (σ := σ) (map_get (f := brow) hb) (b_len b)
      have hlk := fun (r : Store) (z : AV) => look_0 (fr := false) (r := r) (z := z) (kl := .str) (k := .str b.name) rfl (find_B b.name s)
      unfold addB
      cases hk : lookB b.name s with
      | none =>
        rw [hk] at hlk
        simp only [Option.map_none, Option.getD_none, Option.isSome_none] at hlk
        have hm := fun (r : Store) => mupd_0 (r := r) (kl := .str) (k := .str b.name) rfl (set_B b s hk)
        simp only [B0_eval_Eval, Option.isSome_none, Bool.false_eq_true, if_false]
        simp (disch := omega) only [eqs, eqL, ↓gc_len, seval, -List.reduceReplicate, reduceCtorEq, omap, depth, pcall, pureR, freezeFor, freezeAll, tupR, resV, purR, enterTm, number, gcOk, rangeEnd, mkTup, allP, eqM, hlt, hx, b_ld, b_in, b_ce, b_in2, b_f0, b_f1, b_g0, b_g1, ldM, hlk, hm, ent_below, e_ev0, sM8]
      | some v =>
        rw [hk] at hlk
        simp only [Option.map_some, Option.getD_some, Option.isSome_some] at hlk
        simp only [B0_eval_Eval, Option.isSome_some, if_true]
        simp (disch := omega) only [eqs, eqL, ↓gc_len, seval, -List.reduceReplicate, reduceCtorEq, omap, depth, pcall, pureR, freezeFor, freezeAll, tupR, resV, purR, enterTm, number, gcOk, rangeEnd, mkTup, allP, eqM, hlt, hx, b_ld, b_in, b_ce, b_in2, b_f0, b_f1, b_g0, b_g1, ldM, hlk, ent_below, e_ev0, sM8]) (fun i s => rfl) [] trivial _ (foldE_foldl addB l 0 [])
  exact h
abbrev e_ev1 (t : Term) (V : List V2) (i : Int) : List (Nat × AV) := [(2, .p (.ptr t.row 0)), (7, .ptr 1 1 0 0), (44, .p (.lst (V.map vrow))), (45, .p (.int .i64 V.length)), (46, .p (.int .i64 i))]
def outE1 (r : Ex × St) : Prop := r.1 = .ret ∧ r.2.τ.get 4 = .p (.int .u64 0) ∧ r.2.τ.get 5 = .p (.int .i64 12)
theorem fold_has (M : List Bd) : ∀ (V : List V2) (i : Nat), foldE (S := Unit) (T := Unit) (fun _ _ (v : V2) => if (lookB v.name M).isSome = true then .inl () else .inr ()) i () V = if V.all (fun v => (lookB v.name M).isSome) = true then .inl () else .inr ()
  | [], i => rfl
  | v :: V, i => by
    unfold foldE
    by_cases h : (lookB v.name M).isSome = true
    · simp only [h, if_true, List.all_cons, Bool.true_and]
      exact fold_has M V (i + 1)
    · simp [h]
theorem v_ldv2 {v : V2} : loadV σ 2 true (.p (.ptr (vrow v) 0)) = some (.p (.agg (vrow v))) := rfl
theorem v_inv2 {v : V2} : initV σ 2 true (some ((vrow v).map .p)) = some (.p (.ptr (vrow v) 0), σ) := rfl
theorem v_cev2 {v : V2} : cellsOf 2 true (.p (.agg (vrow v))) = some ((vrow v).map .p) := rfl
theorem v_g0 {v : V2} : (vrow v)[0]? = some (.str v.name) := rfl
theorem v_f0 {v : V2} : fadrV 0 (.p (.ptr (vrow v) 0)) = some (.p (.ptr (vrow v) 0)) := rfl
set_option maxHeartbeats 4000000 in
theorem l1_Eval (t : Term) (V : List V2) (hV : V.length ≤ 1000000) (M : List Bd) : if V.all (fun v => (lookB v.name M).isSome) = true then loopAt P L1_eval_Eval (e_ev1 t V 0) (sM8 M) 63 none = back P [2, 7, 44, 45, 46] B1_eval_Eval 2 (exec P B1_eval_Eval ⟨tm (e_ev1 t V V.length), sM8 M, 63, none⟩) else ∃ r, loopAt P L1_eval_Eval (e_ev1 t V 0) (sM8 M) 63 none = some r ∧ outE1 r := by
  have h := loop_to (P := P) (nt := 63) (lv := [2, 7, 44, 45, 46]) (b := B1_eval_Eval) (rd := none) (as := V) (fun i (_ : Unit) => e_ev1 t V i) (fun _ => sM8 M) (fun _ _ v => if (lookB v.name M).isSome = true then .inl () else .inr ()) (fun (_ : Unit) => outE1) (fun _ _ => True)
    (fun i v s hv hi hs => by
      refine ⟨fun _ _ => trivial, ?_⟩
      have hlt : ((i : Int) < V.length) = True := by simpa using hi
      have hx := fun σ => v_iadr (k := .i64) (es := 2) (σ := σ) (map_get (f := vrow) hv) (by simp [vrow])
      have hlk := fun (r : Store) (z : AV) => look_0 (fr := false) (r := r) (z := z) (kl := .str) (k := .str v.name) rfl (find_B v.name M)
      cases hk : lookB v.name M with
      | none =>
        rw [hk] at hlk
        simp only [Option.map_none, Option.getD_none, Option.isSome_none] at hlk
        simp only [B1_eval_Eval, Option.isSome_none, Bool.false_eq_true, if_false]
        simp (disch := omega) only [eqs, eqL, ↓gc_len, seval, -List.reduceReplicate, reduceCtorEq, omap, depth, pcall, pureR, freezeFor, freezeAll, tupR, resV, purR, enterTm, number, gcOk, rangeEnd, mkTup, allP, eqM, hlt, hx, v_ldv2, v_inv2, v_cev2, v_f0, v_g0, ldM, hlk, ent_below, e_ev1, sM8, outE1]
      | some w =>
        rw [hk] at hlk
        simp only [Option.map_some, Option.getD_some, Option.isSome_some] at hlk
        simp only [B1_eval_Eval, Option.isSome_some, if_true]
        simp (disch := omega) only [eqs, eqL, ↓gc_len, seval, -List.reduceReplicate, reduceCtorEq, omap, depth, pcall, pureR, freezeFor, freezeAll, tupR, resV, purR, enterTm, number, gcOk, rangeEnd, mkTup, allP, eqM, hlt, hx, v_ldv2, v_inv2, v_cev2, v_f0, v_g0, ldM, hlk, ent_below, e_ev1, sM8]) (fun i s => rfl) () trivial
  rw [fold_has] at h
  cases hb : V.all (fun v => (lookB v.name M).isSome) with
  | true => rw [hb, if_pos rfl] at h; rw [if_pos rfl]; exact h.2
  | false => rw [hb, if_neg (by simp)] at h; rw [if_neg (by simp)]; exact h
set_option maxHeartbeats 8000000 in
theorem s_eval_Eval (l : List Bd) (hl : ∀ b ∈ l, W b.v) (hln : l.length ≤ 9223372036854775807) (t : Term) (ht : TOk t) (hc : t.count ≤ 1000000) : R P f_eval_Eval [.agg t.row, .lst (l.map brow)] = some (.tup (evalP l t)) := by
  have hk := s_term_Check t ht hc
  unfold evalP
  rcases Classical.propComplete (checkT t = 0) with c0 | c0
  rotate_left
  · rw [if_neg (of_eq_false c0)]
    (rw [r_eval_Eval (Nat.le_of_ble_eq_true rfl), F_eval_Eval]; simp (disch := omega) only [eqs, eqL, ↓gc_len, seval, -List.reduceReplicate, reduceCtorEq, omap, depth, pcall, pureR, freezeFor, freezeAll, tupR, resV, purR, enterTm, number, gcOk, rangeEnd, mkTup, allP, eqM, q_term_Check, hk, c0])
  have h0 := of_eq_true c0
  rw [if_pos h0]
  rw [h0] at hk
  have h1 := l0_Eval t l hln
  have hv := s_term_Vars t hc
  have hvl : (varsT t).length ≤ 1000000 := by
    rw [varsT_eq]
    have := insUs_len (l := t.pre) (s := [])
    rw [Term.pre_len, List.length_nil] at this
    omega
  have h2 := l1_Eval t (varsT t) hvl (l.foldl addB [])
  have hb : (varsT t).all (fun v => (lookB v.name (l.foldl addB [])).isSome) = boundB l t := by
    rw [← vars_bound l t]
    congr 1
    funext v
    rw [look_all]
  rw [hb] at h2
  have hE : envB (l.foldl addB []) = envB l := by funext n; unfold envB; rw [look_all]
  have hM := s_eval_value f_eval_Eval_1 [.ptr [.pmap ((l.foldl addB []).map entP)] 0] (envB l) (env_W l hl) (fun u σ hu => by
    have h9 := s_Eval1 (l.foldl addB []) u
    rw [hE] at h9
    simp (disch := omega) only [eqs, eqL, ↓gc_len, seval, -List.reduceReplicate, reduceCtorEq, omap, depth, pcall, pureR, freezeFor, freezeAll, tupR, resV, purR, enterTm, number, gcOk, rangeEnd, mkTup, allP, eqM, q_eval_Eval_1, h9]) t (check_all h0) ht hc
  have h1' : loopAt P L0_eval_Eval [(2, .p (.ptr t.row 0)), (7, .ptr 1 1 0 0), (22, .p (.lst (l.map brow))), (23, .p (.int .i64 l.length)), (24, .p (.int .i64 0))] [.map [] false, .av 1 [[.map 0]] false] 63 none = _ := h1
  have hpm : ∀ k, purify (sM8 (l.foldl addB [])) (k + 4) (.fn f_eval_Eval_1 [.ptr 1 1 0 0]) = some (.fn f_eval_Eval_1 [.ptr [.pmap ((l.foldl addB []).map entP)] 0]) := by
    intro k
    have key : ∀ (f : PV × AV → Option (PV × PV)) (s : List Bd), (∀ b, f (entB b) = some (entP b)) → omap f (s.map entB) = some (s.map entP) := by
      intro f s hf
      induction s with
      | nil => rfl
      | cons b s ih => simp only [List.map_cons, omap, hf]; rw [ih]
    simp only [purify, omap, sM8, List.getElem?_cons_zero, List.getElem?_cons_succ, List.length_cons, List.length_nil, Nat.zero_add, if_true, Option.bind_some]
    rw [key _ _ (fun b => rfl)]
    rfl
  generalize varsT t = V at *
  generalize l.foldl addB [] = M at *
  simp only [sM8] at h2 hpm
  cases hbd : boundB l t with
  | false =>
    rw [hbd, if_neg (by simp)] at h2
    rw [if_neg (by simp)]
    obtain ⟨⟨e, τ', σ', nt', rd'⟩, g1, g2, g3, g4⟩ := h2
    simp only at g2 g3 g4
    subst g2
    simp only [e_ev1] at g1
    (rw [r_eval_Eval (Nat.le_of_ble_eq_true rfl), F_eval_Eval]; simp (disch := omega) only [eqs, eqL, ↓gc_len, seval, -List.reduceReplicate, reduceCtorEq, omap, depth, pcall, pureR, freezeFor, freezeAll, tupR, resV, purR, enterTm, number, gcOk, rangeEnd, mkTup, allP, eqM, q_term_Check, hk, k0_eval_Eval, h1', B0_eval_Eval, Int.lt_irrefl, List.length_map, q_term_Vars, hv, k1_eval_Eval, g1, g3, g4, e_ev0, sM8])
  | true =>
    rw [hbd, if_pos rfl] at h2
    rw [if_pos rfl]
    simp only [e_ev1] at h2
    (rw [r_eval_Eval (Nat.le_of_ble_eq_true rfl), F_eval_Eval]; simp (disch := omega) only [eqs, eqL, ↓gc_len, seval, -List.reduceReplicate, reduceCtorEq, omap, depth, pcall, pureR, freezeFor, freezeAll, tupR, resV, purR, enterTm, number, gcOk, rangeEnd, mkTup, allP, eqM, q_term_Check, hk, k0_eval_Eval, h1', B0_eval_Eval, Int.lt_irrefl, List.length_map, q_term_Vars, hv, k1_eval_Eval, h2, B1_eval_Eval, mkFn, hpm, q_eval_value, hM, e_ev0, sM8])
end Go.AE.S
/- Closed terms. --M-- -/
namespace Go.AE.S
open Go Go.AE
set_option linter.unusedSimpArgs false
set_option linter.unusedVariables false
variable {τ : Tm} {σ : Store} {rd : Option Nat}
def closedT (t : Term) : Bool := t.post.all fun u => decide (u.op ≠ 1)
theorem closedT_eq (t : Term) : closedT t = (decide (t.op ≠ 1) && !(t.args.any fun a => !closedT a)) := by
  rw [Bool.eq_iff_iff]
  unfold closedT
  simp only [List.all_eq_true, Bool.and_eq_true, Bool.not_eq_true', List.any_eq_false, Bool.not_eq_true, Bool.not_eq_false', decide_eq_true_eq, mem_post]
  constructor
  · intro h
    refine ⟨h t (mem_pre.2 (.inl rfl)), fun a ha hf => ?_⟩
    have : (a.post.all fun u => decide (u.op ≠ 1)) = true := by
      rw [List.all_eq_true]
      intro u hu
      exact decide_eq_true (h u (mem_pre.2 (.inr ⟨a, ha, (mem_post a u).1 hu⟩)))
    rw [this] at hf
    cases hf
  · rintro ⟨h1, h2⟩ u hu
    rcases mem_pre.1 hu with rfl | ⟨a, ha, hu⟩
    · exact h1
    · have : (a.post.all fun u => decide (u.op ≠ 1)) = true := by
        cases h9 : a.post.all fun u => decide (u.op ≠ 1)
        · exact absurd h9 (h2 a ha)
        · rfl
      rw [List.all_eq_true] at this
      exact of_decide_eq_true (this u ((mem_post a u).2 hu))
abbrev e_ixt (f : AV) (l : List Term) (i : Int) : List (Nat × AV) := [(0, .p (.lst (l.map Term.row))), (1, f), (7, .p (.int .i64 l.length)), (8, .p (.int .i64 i))]
set_option maxHeartbeats 4000000 in
theorem s_ContainsT (f : FuncId) (cap : List PV) (q : Term → Bool) (l : List Term) (hl : l.length ≤ 1000000) (hf : ∀ a ∈ l, ∀ σ, callV P (.p (.fn f cap)) [.p (.agg a.row)] σ = some (.p (.bool (q a)), σ)) : R P f_slices_ContainsFunc_api_Term_api_Term [.lst (l.map Term.row), .fn f cap] = some (.bool (l.any q)) := by
  have h := loop_to (P := P) (nt := 19) (lv := [0, 1, 7, 8]) (b := B0_slices_IndexFunc_api_Term_api_Term) (rd := none) (as := l) (fun i (_ : Unit) => e_ixt (.p (.fn f cap)) l i) (fun _ => []) (fun i _ v => if q v = true then .inr i else .inl ()) (fun (n : Nat) => ret1 4 (.int .i64 n) []) (fun _ _ => True)
    (fun i v s hv hi hs => by
      refine ⟨fun _ _ => trivial, ?_⟩
      have hlt : ((i : Int) < l.length) = True := by simpa using hi
      have hr := hf v (List.mem_of_getElem? hv)
      have hx := fun σ => v_iadr (k := .i64) (es := 5) (σ := σ) (map_get (f := Term.row) hv) v.row_len
      cases h1 : q v with
      | true =>
        rw [h1] at hr
        simp only [B0_slices_IndexFunc_api_Term_api_Term]
        simp (disch := omega) only [eqs, eqL, ↓gc_len, seval, -List.reduceReplicate, reduceCtorEq, omap, depth, pcall, pureR, freezeFor, freezeAll, tupR, resV, purR, enterTm, number, gcOk, rangeEnd, mkTup, allP, eqM, hlt, hx, hr, e_ixt, ret1]
      | false =>
        rw [h1] at hr
        simp only [B0_slices_IndexFunc_api_Term_api_Term]
        simp (disch := omega) only [eqs, eqL, ↓gc_len, seval, -List.reduceReplicate, reduceCtorEq, omap, depth, pcall, pureR, freezeFor, freezeAll, tupR, resV, purR, enterTm, number, gcOk, rangeEnd, mkTup, allP, eqM, hlt, hx, hr, e_ixt, ret1]) (fun i s => rfl) () trivial
  rcases fold_find q l 0 with ⟨n, h1, h2⟩ | ⟨h1, h2⟩
  · rw [h1] at h
    obtain ⟨⟨e', τ', σ', nt', rd'⟩, g1, g2, g3, g4⟩ := h
    simp only at g2 g3 g4
    subst g2; subst g4
    have h' : loopAt P L0_slices_IndexFunc_api_Term_api_Term (e_ixt (.p (.fn f cap)) l 0) [] 19 none = some (.ret, ⟨τ', [], nt', rd'⟩) := g1
    simp only [e_ixt] at h'
    have hi : R P f_slices_IndexFunc_api_Term_api_Term [.lst (l.map Term.row), .fn f cap] = some (.int .i64 n) := by
      (rw [r_slices_IndexFunc_api_Term_api_Term (Nat.le_of_ble_eq_true rfl), F_slices_IndexFunc_api_Term_api_Term]; simp (disch := omega) only [eqs, eqL, ↓gc_len, seval, -List.reduceReplicate, reduceCtorEq, omap, depth, pcall, pureR, freezeFor, freezeAll, tupR, resV, purR, enterTm, number, gcOk, rangeEnd, mkTup, allP, eqM, List.length_map, k0_slices_IndexFunc_api_Term_api_Term, h', g3])
    have hn : ((n : Int) ≥ 0) = True := by simp
    rw [h2]
    (rw [r_slices_ContainsFunc_api_Term_api_Term (Nat.le_of_ble_eq_true rfl), F_slices_ContainsFunc_api_Term_api_Term]; simp (disch := omega) only [eqs, eqL, ↓gc_len, seval, -List.reduceReplicate, reduceCtorEq, omap, depth, pcall, pureR, freezeFor, freezeAll, tupR, resV, purR, enterTm, number, gcOk, rangeEnd, mkTup, allP, eqM, q_slices_IndexFunc_api_Term_api_Term, hi, hn])
  · rw [h1] at h
    obtain ⟨_, h⟩ := h
    have h' : loopAt P L0_slices_IndexFunc_api_Term_api_Term (e_ixt (.p (.fn f cap)) l 0) [] 19 none = _ := h
    simp only [e_ixt] at h'
    have hi : R P f_slices_IndexFunc_api_Term_api_Term [.lst (l.map Term.row), .fn f cap] = some (.int .i64 (-1)) := by
      (rw [r_slices_IndexFunc_api_Term_api_Term (Nat.le_of_ble_eq_true rfl), F_slices_IndexFunc_api_Term_api_Term]; simp (disch := omega) only [eqs, eqL, ↓gc_len, seval, -List.reduceReplicate, reduceCtorEq, omap, depth, pcall, pureR, freezeFor, freezeAll, tupR, resV, purR, enterTm, number, gcOk, rangeEnd, mkTup, allP, eqM, List.length_map, k0_slices_IndexFunc_api_Term_api_Term, h', B0_slices_IndexFunc_api_Term_api_Term, Int.lt_irrefl])
    rw [h2]
    (rw [r_slices_ContainsFunc_api_Term_api_Term (Nat.le_of_ble_eq_true rfl), F_slices_ContainsFunc_api_Term_api_Term]; simp (disch := omega) only [eqs, eqL, ↓gc_len, seval, -List.reduceReplicate, reduceCtorEq, omap, depth, pcall, pureR, freezeFor, freezeAll, tupR, resV, purR, enterTm, number, gcOk, rangeEnd, mkTup, allP, eqM, q_slices_IndexFunc_api_Term_api_Term, hi])
set_option maxHeartbeats 4000000 in
theorem s_eval_Closed (t : Term) : t.count ≤ 1000000 → R P f_eval_Closed [.agg t.row] = some (.bool (closedT t)) := by
  induction t using Term.ind with
  | h t ih =>
  intro hc
  have hct := Term.count_eq t
  have hlen := Term.counts_len t.args
  rw [closedT_eq]
  by_cases h1 : t.op = 1
  · have e1 : (t.op = 1) = True := by simp [h1]
    rw [h1]
    (rw [r_eval_Closed (Nat.le_of_ble_eq_true rfl), F_eval_Closed]; simp (disch := omega) only [eqs, eqL, ↓gc_len, seval, -List.reduceReplicate, reduceCtorEq, omap, depth, pcall, pureR, freezeFor, freezeAll, tupR, resV, purR, enterTm, number, gcOk, rangeEnd, mkTup, allP, eqM, e1])
    rfl
  · have e1 : (t.op = 1) = False := by simp [h1]
    have hq := s_ContainsT f_eval_Closed_1 [] (fun a => !closedT a) t.args (by omega) (fun a ha σ => by
      have hac := Term.counts_mem ha
      have hr := ih a ha (by omega)
      have h9 : R P f_eval_Closed_1 [.agg a.row] = some (.bool (!closedT a)) := by
        (rw [r_eval_Closed_1 (Nat.le_of_ble_eq_true rfl), F_eval_Closed_1]; simp (disch := omega) only [eqs, eqL, ↓gc_len, seval, -List.reduceReplicate, reduceCtorEq, omap, depth, pcall, pureR, freezeFor, freezeAll, tupR, resV, purR, enterTm, number, gcOk, rangeEnd, mkTup, allP, eqM, q_eval_Closed, hr])
      simp (disch := omega) only [eqs, eqL, ↓gc_len, seval, -List.reduceReplicate, reduceCtorEq, omap, depth, pcall, pureR, freezeFor, freezeAll, tupR, resV, purR, enterTm, number, gcOk, rangeEnd, mkTup, allP, eqM, q_eval_Closed_1, h9])
    (rw [r_eval_Closed (Nat.le_of_ble_eq_true rfl), F_eval_Closed]; simp (disch := omega) only [eqs, eqL, ↓gc_len, seval, -List.reduceReplicate, reduceCtorEq, omap, depth, pcall, pureR, freezeFor, freezeAll, tupR, resV, purR, enterTm, number, gcOk, rangeEnd, mkTup, allP, eqM, e1, q_slices_ContainsFunc_api_Term_api_Term, hq])
end Go.AE.S
