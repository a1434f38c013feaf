/- Folding, by the program. --M-- -/
import Derived.Test.YtkdaonhccijffaaD3
import Derived.Test.YtkdaonhccijffaaC0
import Derived.Test.YtkdaonhccijffaaC2
namespace Go.AE
namespace Term
mutual
def foldT : Term → Term
  | .mk o w v s as => if S.closedT (.mk o w v s as) = true then .mk 2 w (valT (fun _ => 0) (.mk o w v s as) : Nat) (S.bs []) [] else .mk o w v s (foldsT as)
def foldsT : List Term → List Term
  | [] => []
  | a :: r => foldT a :: foldsT r
end
theorem foldsT_map : ∀ l : List Term, foldsT l = l.map foldT
  | [] => by rw [foldsT]; rfl
  | a :: r => by rw [foldsT, foldsT_map r]; rfl
theorem foldT_eq (t : Term) : t.foldT = if S.closedT t = true then .mk 2 t.w (valT (fun _ => 0) t : Nat) (S.bs []) [] else .mk t.op t.w t.v t.name (t.args.map foldT) := by
  cases t; rw [foldT, foldsT_map]; rfl
end Term
namespace S
open Go Go.AE
set_option linter.unusedSimpArgs false
set_option linter.unusedVariables false
variable {τ : Tm} {σ : Store} {rd : Option Nat}
theorem width_64 {o w v r : Int} {as : List Int} (h : widthW o w v as = (r, 0)) : r ≤ 64 := by
  unfold widthW at h
  have okg : ∀ i, as.all okW = true → as.getD i 0 ≤ 64 := by
    intro i ha
    rw [List.all_eq_true] at ha
    rw [List.getD_eq_getElem?_getD]
    cases hi : as[i]? with
    | none => simp
    | some a =>
      have := ha a (List.mem_of_getElem? hi)
      simp only [okW, decide_eq_true_eq] at this
      simp only [Option.getD_some]
      omega
  split at h
  · cases h
  split at h
  · cases h
  rename_i hall
  have okg := fun i => okg i (by cases hx : as.all okW <;> simp_all)
  have o0 := okg 0
  have o1 := okg 1
  split at h
  · unfold leafW at h
    split at h
    · cases h
    · rename_i hh; have := congrArg Prod.fst h; simp only at this; omega
  split at h
  · unfold sizeW at h
    split at h
    · cases h
    · rename_i hh; have := congrArg Prod.fst h; simp only at this; omega
  split at h
  · have := congrArg Prod.fst h; simp only at this; omega
  split at h
  · split at h
    · rename_i hh; have := congrArg Prod.fst h; simp only at this; omega
    · cases h
  split at h
  · split at h
    · have := congrArg Prod.fst h; simp only at this; omega
    · cases h
  split at h
  · split at h
    · have := congrArg Prod.fst h; simp only at this; omega
    · have := congrArg Prod.fst h; simp only at this; omega
  · cases h
theorem ok_clamp {t : Term} (h : AllOk t) : clampW t.w = t.w := by
  have hn := allOk_self h
  have := width_64 hn.wd
  have := hn.w
  unfold clampW
  omega
theorem cut_val {E : ByteArray → Nat} {t : Term} (h : AllOk t) (ht : TOk t) : mkConst t.w (t.valT E : Nat) = .mk 2 t.w (t.valT E : Nat) (bs []) [] := by
  have hv := (val_ok E t h ht).1
  unfold mkConst cutW
  have e : ((t.valT E : Nat) : Int).toNat % 2 ^ (clampW t.w).toNat = t.valT E := Nat.mod_eq_of_lt hv
  rw [e, ok_clamp h]
abbrev sF0 (t : Term) (s : List Term) : Store := [.pv 0 [] false, .av 5 [z5 0] false, .av 5 [[.p (.int .i64 t.op), .p (.int .i64 t.w), .p (.int .u64 t.v), .p (.str t.name), .sl 3 s.length]] false, .pv (esOf 5 s) (s.map Term.row) false]
abbrev e_fd (t : Term) (i : Int) : List (Nat × AV) := [(2, .ptr 1 1 0 0), (3, .ptr 2 1 0 0), (16, .p (.lst (t.args.map Term.row))), (17, .p (.int .i64 t.args.length)), (18, .p (.int .i64 i))]
theorem s_fold1 (u : Term) : R P f_eval_fold_1 [.agg u.row] = some (.int .u64 0) := by
  (rw [r_eval_fold_1 (Nat.le_of_ble_eq_true rfl), F_eval_fold_1]; simp (disch := omega) only [eqs, eqL, ↓gc_len, seval, -List.reduceReplicate, reduceCtorEq, omap, depth, pcall, pureR, freezeFor, freezeAll, tupR, resV, purR, enterTm, number, gcOk, rangeEnd, mkTup, allP, eqM])
set_option maxHeartbeats 8000000 in
theorem s_eval_fold (t : Term) : AllOk t → TOk t → t.count ≤ 1000000 → R P f_eval_fold [.agg t.row] = some (.agg t.foldT.row) := by
  induction t using Term.ind with
  | h t ih =>
  intro h ht hc
  have hlen := Term.counts_len t.args
  have hct := Term.count_eq t
  have hcl := s_eval_Closed t hc
  rw [Term.foldT_eq]
  cases hk : closedT t with
  | true =>
    rw [hk] at hcl
    rw [if_pos rfl, ← cut_val h ht]
    have hv := s_eval_value f_eval_fold_1 [] (fun _ => 0) (fun _ => by show 0 < _; omega) (fun u σ hu => by
      have h9 := s_fold1 u
      simp (disch := omega) only [eqs, eqL, ↓gc_len, seval, -List.reduceReplicate, reduceCtorEq, omap, depth, pcall, pureR, freezeFor, freezeAll, tupR, resV, purR, enterTm, number, gcOk, rangeEnd, mkTup, allP, eqM, q_eval_fold_1, h9]) t h ht hc
    have hC := s_term_Const t.w (t.valT (fun _ => 0) : Nat) (u64_nat (by have := val_W (fun _ => 0) h ht; exact this))
    (rw [r_eval_fold (Nat.le_of_ble_eq_true rfl), F_eval_fold]; simp (disch := omega) only [eqs, eqL, ↓gc_len, seval, -List.reduceReplicate, reduceCtorEq, omap, depth, pcall, pureR, freezeFor, freezeAll, tupR, resV, purR, enterTm, number, gcOk, rangeEnd, mkTup, allP, eqM, q_eval_Closed, hcl, q_eval_value, hv, q_term_Const, hC])
  | false =>
    rw [hk] at hcl
    rw [if_neg (by simp)]
    obtain ⟨hk, h⟩ := loop_run (P := P) (nt := 31) (lv := [2, 3, 16, 17, 18]) (b := B0_eval_fold) (rd := none) (as := t.args) (fun i (_ : List Term) => e_fd t i) (sF0 t) (fun _ s a => s ++ [a.foldT]) (fun i s => s.length = i)
      (fun i a s ha hi hs => by
        have hm := List.mem_of_getElem? ha
        have hac := Term.counts_mem hm
        have hr := ih a hm (allOk_arg h hm) (ht.args hm) (by omega)
        have hlt : ((i : Int) < t.args.length) = True := by simpa using hi
        have hap := v_append (σ := sF0 t s ++ [.pv 5 [a.foldT.row] false]) (b := 3) (n := s.length) (e := esOf 5 s) (es := 5) (bytes := 64) (rows := s.map Term.row) (new := [a.foldT.row]) rfl (by simp) (esOf_or _ _ _) (by simp only [List.length_cons, List.length_nil]; omega)
        simp only [sF0, z5, List.cons_append, List.nil_append] at hap
        refine ⟨by simp [hs], ?_⟩
        simp only [B0_eval_fold]
        simp (disch := omega) only [eqs, eqL, ↓gc_len, seval, -List.reduceReplicate, reduceCtorEq, omap, depth, pcall, pureR, freezeFor, freezeAll, tupR, resV, purR, enterTm, number, gcOk, rangeEnd, mkTup, allP, eqM, hlt, v_iadr (map_get (f := Term.row) ha) a.row_len, q_eval_fold, hr, sF0, z5, hap, List.map_append, List.length_append, esOf_snoc, e_fd, gc_67]) (fun i s => rfl) [] (by simp) _ (fold_snoc (fun a => a.foldT) t.args 0 [])
    rw [List.nil_append] at h
    have h' : loopAt P L0_eval_fold (e_fd t 0) [.pv 0 [] false, .av 5 [z5 0] false, .av 5 [[.p (.int .i64 t.op), .p (.int .i64 t.w), .p (.int .u64 t.v), .p (.str t.name), .sl 3 0]] false, .pv 0 [] false] 31 none = _ := h
    simp only [z5, sF0] at h'
    have hr : (Term.mk t.op t.w t.v t.name (t.args.map Term.foldT)).row = [.int .i64 t.op, .int .i64 t.w, .int .u64 t.v, .str t.name, .lst ((t.args.map Term.foldT).map Term.row)] := by rw [Term.row_eq]; rfl
    rw [hr]
    generalize t.args.map Term.foldT = fs at *
    (rw [r_eval_fold (Nat.le_of_ble_eq_true rfl), F_eval_fold]; simp (disch := omega) only [eqs, eqL, ↓gc_len, seval, -List.reduceReplicate, reduceCtorEq, omap, depth, pcall, pureR, freezeFor, freezeAll, tupR, resV, purR, enterTm, number, gcOk, rangeEnd, mkTup, allP, eqM, q_eval_Closed, hcl, List.length_map, k0_eval_fold, h', B0_eval_fold, Int.lt_irrefl, e_fd])
end S
end Go.AE
/- Folding, by the reference. --M-- -/
namespace Go.AE.S
open Go Go.AE
set_option linter.unusedSimpArgs false
set_option linter.unusedVariables false
variable {τ : Tm} {σ : Store} {rd : Option Nat}
end Go.AE.S
/- The law of the order. --M-- -/
namespace Go.AE.S
open Go Go.AE
set_option linter.unusedSimpArgs false
set_option linter.unusedVariables false
variable {τ : Tm} {σ : Store} {rd : Option Nat}
theorem blist_3 {a b c : Term} : blistV σ 5 3 (fillP (List.replicate 3 [.p (.int .i64 0), .p (.int .i64 0), .p (.int .u64 0), .p (.str (bs [])), .nils]).flatten [(0, 5, .p (.agg a.row)), (5, 5, .p (.agg b.row)), (10, 5, .p (.agg c.row))]) = some (.p (.lst [a.row, b.row, c.row]), σ) := by rw [Term.row_eq a, Term.row_eq b, Term.row_eq c]; rfl
end Go.AE.S
/- The reference's At. --M-- -/
namespace Go.AE.S
open Go Go.AE
set_option linter.unusedSimpArgs false
set_option linter.unusedVariables false
variable {τ : Tm} {σ : Store} {rd : Option Nat}
end Go.AE.S
/- The reference's Put. --M-- -/
namespace Go.AE.S
open Go Go.AE
set_option linter.unusedSimpArgs false
set_option linter.unusedVariables false
variable {τ : Tm} {σ : Store} {rd : Option Nat}
end Go.AE.S
/- The law of paths. --M-- -/
namespace Go.AE
namespace Term
end Term
namespace S
open Go Go.AE
set_option linter.unusedSimpArgs false
set_option linter.unusedVariables false
variable {τ : Tm} {σ : Store} {rd : Option Nat}
theorem bq_s (t : Term) : t.beq t = true := (Term.beq_iff t t).2 rfl
theorem bsl_2t {a b : Term} : bsliceV σ 5 2 (fillP (List.replicate 2 [.p (.int .i64 0), .p (.int .i64 0), .p (.int .u64 0), .p (.str (bs [])), .nils]).flatten [(0, 5, .p (.agg a.row)), (5, 5, .p (.agg b.row))]) = some (.sl σ.length 2, σ ++ [.pv 5 [a.row, b.row] false]) := by rw [Term.row_eq a, Term.row_eq b]; rfl
theorem blist_2t {a b : Term} : blistV σ 5 2 (fillP (List.replicate 2 [.p (.int .i64 0), .p (.int .i64 0), .p (.int .u64 0), .p (.str (bs [])), .nils]).flatten [(0, 5, .p (.agg a.row)), (5, 5, .p (.agg b.row))]) = some (.p (.lst [a.row, b.row]), σ) := by rw [Term.row_eq a, Term.row_eq b]; rfl
end S
end Go.AE
/- The examples; Fold. --M-- -/
namespace Go.AE.S
open Go Go.AE
set_option linter.unusedSimpArgs false
set_option linter.unusedVariables false
variable {τ : Tm} {σ : Store} {rd : Option Nat}
def foldX (t : Term) : Term := if checkT t = 0 then t.foldT else t
set_option maxHeartbeats 4000000 in
theorem s_eval_Fold (t : Term) (ht : TOk t) (hc : t.count ≤ 1000000) : R P f_eval_Fold [.agg t.row] = some (.agg (foldX t).row) := by
  have hk := s_term_Check t ht hc
  unfold foldX
  rcases Classical.propComplete (checkT t = 0) with c0 | c0
  · have h0 := of_eq_true c0
    rw [if_pos h0]
    rw [h0] at hk
    have hf := s_eval_fold t (check_all h0) ht hc
    (rw [r_eval_Fold (Nat.le_of_ble_eq_true rfl), F_eval_Fold]; simp (disch := omega) only [eqs, eqL, ↓gc_len, seval, -List.reduceReplicate, reduceCtorEq, omap, depth, pcall, pureR, freezeFor, freezeAll, tupR, resV, purR, enterTm, number, gcOk, rangeEnd, mkTup, allP, eqM, q_term_Check, hk, q_eval_fold, hf])
  · rw [if_neg (of_eq_false c0)]
    have hcp := s_term_Copy t hc
    (rw [r_eval_Fold (Nat.le_of_ble_eq_true rfl), F_eval_Fold]; simp (disch := omega) only [eqs, eqL, ↓gc_len, seval, -List.reduceReplicate, reduceCtorEq, omap, depth, pcall, pureR, freezeFor, freezeAll, tupR, resV, purR, enterTm, number, gcOk, rangeEnd, mkTup, allP, eqM, q_term_Check, hk, c0, q_term_Copy, hcp])
def lX : Term := .mk 1 4 0 (bs [120]) []
def lN (n : Nat) : Term := .mk 2 4 n (bs []) []
def lL : Term := .mk 17 1 0 (bs []) [lX, lN 3]
def lI : Term := .mk 19 4 0 (bs []) [lL, lN 1, lX]
def lS : Term := .mk 10 4 0 (bs []) [lN 2, lN 3]
def lA : Term := .mk 8 4 0 (bs []) [lX, lS]
def lB : Term := .mk 8 4 0 (bs []) [lX, lN 6]
theorem tok_lX : TOk lX := tok_leaf (by decide) (by decide) ⟨by decide, by decide⟩ (by decide)
theorem tok_lN (n : Nat) (h : n ≤ 15) : TOk (lN n) := tok_leaf (by decide) (by decide) ⟨by omega, by omega⟩ (by decide)
theorem tok_2 {o w : Int} {a b : Term} (ho : -9223372036854775808 ≤ o ∧ o ≤ 9223372036854775807) (hw : -9223372036854775808 ≤ w ∧ w ≤ 9223372036854775807) (ha : TOk a) (hb : TOk b) : TOk (.mk o w 0 (bs []) [a, b]) := .mk _ ho hw ⟨by show (0 : Int) ≤ 0; omega, by show (0 : Int) ≤ _; omega⟩ (by show (bs []).size ≤ _; decide) (by show 2 ≤ _; omega) (by
  intro c hc
  rcases List.mem_cons.1 hc with rfl | hc
  · exact ha
  · rw [List.mem_singleton.1 hc]; exact hb)
theorem tok_lL : TOk lL := tok_2 (by decide) (by decide) tok_lX (tok_lN 3 (by decide))
theorem tok_lS : TOk lS := tok_2 (by decide) (by decide) (tok_lN 2 (by decide)) (tok_lN 3 (by decide))
theorem tok_lA : TOk lA := tok_2 (by decide) (by decide) tok_lX tok_lS
theorem tok_lB : TOk lB := tok_2 (by decide) (by decide) tok_lX (tok_lN 6 (by decide))
theorem tok_lI : TOk lI := .mk _ (by decide) (by decide) ⟨by decide, by decide⟩ (by decide) (by decide) (by
  intro c hc
  rcases List.mem_cons.1 hc with rfl | hc
  · exact tok_lL
  rcases List.mem_cons.1 hc with rfl | hc
  · exact tok_lN 1 (by decide)
  · rw [List.mem_singleton.1 hc]; exact tok_lX)
theorem x_chI : checkT lI = 0 := by decide +kernel
theorem x_chA : checkT lA = 0 := by decide +kernel
theorem x_bI : boundB [⟨bs [120], 2⟩] lI = true := by decide +kernel
theorem x_vI : lI.valT (envB [⟨bs [120], 2⟩]) = 1 := by decide +kernel
theorem x_fA : foldX lA = lB := by
  unfold foldX
  rw [if_pos x_chA]
  exact (Term.beq_iff _ _).1 (by decide +kernel)
theorem x_Eval : R P f_eval_Eval [.agg lI.row, .lst [[.str (bs [120]), .int .u64 2]]] = some (.tup [.int .u64 1, .int .i64 0]) := by
  have h := s_eval_Eval [⟨bs [120], 2⟩] (fun b hb => by rw [List.mem_singleton.1 hb]; show 2 < _; omega) (by decide) lI tok_lI (by decide)
  unfold evalP at h
  rw [if_pos x_chI, if_pos x_bI, x_vI] at h
  exact h
theorem x_Fold : R P f_eval_Fold [.agg lA.row] = some (.agg lB.row) := by
  have h := s_eval_Fold lA tok_lA (by decide)
  rw [x_fA] at h
  exact h
theorem x_leaf : R P f_law08_leaf [.str (bs [120])] = some (.agg lX.row) := by
  (rw [r_law08_leaf (Nat.le_of_ble_eq_true rfl), F_law08_leaf]; simp (disch := omega) only [eqs, eqL, ↓gc_len, seval, -List.reduceReplicate, reduceCtorEq, omap, depth, pcall, pureR, freezeFor, freezeAll, tupR, resV, purR, enterTm, number, gcOk, rangeEnd, mkTup, allP, eqM])
  rfl
theorem x_number (n : Nat) (h : n ≤ 15) : R P f_law08_number [.int .u64 n] = some (.agg (lN n).row) := by
  (rw [r_law08_number (Nat.le_of_ble_eq_true rfl), F_law08_number]; simp (disch := omega) only [eqs, eqL, ↓gc_len, seval, -List.reduceReplicate, reduceCtorEq, omap, depth, pcall, pureR, freezeFor, freezeAll, tupR, resV, purR, enterTm, number, gcOk, rangeEnd, mkTup, allP, eqM, bl_012])
  rfl
theorem ll_row : lL.row = [.int .i64 17, .int .i64 1, .int .u64 0, .str (bs []), .lst [lX.row, (lN 3).row]] := rfl
theorem li_row : lI.row = [.int .i64 19, .int .i64 4, .int .u64 0, .str (bs []), .lst [lL.row, (lN 1).row, lX.row]] := rfl
theorem la_row : lA.row = [.int .i64 8, .int .i64 4, .int .u64 0, .str (bs []), .lst [lX.row, lS.row]] := rfl
theorem lb_row : lB.row = [.int .i64 8, .int .i64 4, .int .u64 0, .str (bs []), .lst [lX.row, (lN 6).row]] := rfl
theorem bu_14 {a b : Int} {z0 z1 z4 : AV} {l : List (List PV)} : buildV [z0, z1, .p (.int .u64 0), .p (.str (bs [])), z4] [(0, 1, .p (.int .i64 a)), (1, 1, .p (.int .i64 b)), (4, 1, .p (.lst l))] = some (.p (.agg [.int .i64 a, .int .i64 b, .int .u64 0, .str (bs []), .lst l])) := rfl
theorem bu_e {z0 z1 : AV} {s : ByteArray} {n : Int} : buildV [z0, z1] [(0, 1, .p (.str s)), (1, 1, .p (.int .u64 n))] = some (.p (.agg [.str s, .int .u64 n])) := rfl
theorem bl_e {s : ByteArray} {n : Int} : blistV σ 2 1 (fillP (List.replicate 1 [.p (.str (bs [])), .p (.int .u64 0)]).flatten [(0, 2, .p (.agg [.str s, .int .u64 n]))]) = some (.p (.lst [[.str s, .int .u64 n]]), σ) := rfl
theorem bsl_m {a : Term} {pa pb pc pd : PV} {b m : Nat} : bsliceV σ 5 2 (fillP (List.replicate 2 [.p (.int .i64 0), .p (.int .i64 0), .p (.int .u64 0), .p (.str (bs [])), .nils]).flatten [(0, 5, .p (.agg a.row)), (5, 5, .agg [.p pa, .p pb, .p pc, .p pd, .sl b m])]) = some (.sl σ.length 2, σ ++ [.av 5 [a.row.map .p, [.p pa, .p pb, .p pc, .p pd, .sl b m]] false]) := by rw [Term.row_eq a]; rfl
theorem pur_A {o0 o1 o3 : Obj} (k : Nat) : purify [o0, o1, .pv 5 [(lN 2).row, (lN 3).row] false, o3, .av 5 [lX.row.map .p, [.p (.int .i64 10), .p (.int .i64 4), .p (.int .u64 0), .p (.str (bs [])), .sl 2 2]] false] (k + 3) (.sl 4 2) = some (.lst [lX.row, lS.row]) := rfl
theorem pur_B {o0 o1 o2 o3 o4 : Obj} {a b : List PV} {fr : Bool} (k : Nat) : purify [o0, o1, o2, o3, o4, .pv 5 [a, b] fr] (k + 1) (.sl 5 2) = some (.lst [a, b]) := rfl
theorem ref_A {o0 o1 o3 : Obj} (k : Nat) : refs [o0, o1, .pv 5 [(lN 2).row, (lN 3).row] false, o3, .av 5 [lX.row.map .p, [.p (.int .i64 10), .p (.int .i64 4), .p (.int .u64 0), .p (.str (bs [])), .sl 2 2]] false] (k + 3) (.sl 4 2) = [4, 2] := rfl
theorem flat_lB : PV.flat (.agg lB.row) = false := by simp [PV.flat, lB, Term.row, Term.rows]
set_option maxHeartbeats 8000000 in
theorem s_live : R P f_law08_live [] = some (.bool true) := by
  have r1 := x_leaf
  have n1 : R P f_law08_number [.int .u64 1] = some (.agg (lN 1).row) := x_number 1 (by decide)
  have n2 : R P f_law08_number [.int .u64 2] = some (.agg (lN 2).row) := x_number 2 (by decide)
  have n3 : R P f_law08_number [.int .u64 3] = some (.agg (lN 3).row) := x_number 3 (by decide)
  have n6 : R P f_law08_number [.int .u64 6] = some (.agg (lN 6).row) := x_number 6 (by decide)
  have hE := x_Eval
  have hF := x_Fold
  have hS := s_r06_Same lB tok_lB lB
  rw [bq_s] at hS
  (rw [r_law08_live (Nat.le_of_ble_eq_true rfl), F_law08_live]; simp (disch := omega) only [eqs, eqL, ↓gc_len, seval, -List.reduceReplicate, reduceCtorEq, omap, depth, pcall, pureR, freezeFor, freezeAll, tupR, resV, purR, enterTm, number, gcOk, rangeEnd, mkTup, allP, eqM, q_law08_leaf, r1, q_law08_number, n1, n2, n3, n6, blist_2t, blist_3, bsl_2t, bu_14, ← ll_row, ← li_row, bu_e, bl_e, q_eval_Eval, hE, q_eval_Fold, hF, q_r06_Same, hS, bl_01s, init_sl, bsl_m, pur_A, pur_B, ref_A, flat_lB, ← la_row, ← lb_row, frz_go, frzO])
end Go.AE.S
/- The laws EvalEvals and EvalFolds. --M-- -/
namespace Go.AE.S
open Go Go.AE
set_option linter.unusedSimpArgs false
set_option linter.unusedVariables false
variable {τ : Tm} {σ : Store} {rd : Option Nat}
end Go.AE.S
