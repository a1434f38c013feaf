/- The law EvalTableWide. --M-- -/
import Derived.Test.YtkdaonhccijffaaDa
namespace Go.AE.S
open Go Go.AE
set_option linter.unusedSimpArgs false
set_option linter.unusedVariables false
variable {τ : Tm} {σ : Store} {rd : Option Nat}
def xn (k : Nat) : ByteArray := bs [120, 97 + k]
def xv (n : Nat) : List V2 := (List.range n).map fun k => ⟨xn k, 1⟩
def tW (k : Nat) : Term := .mk 1 1 0 (xn k) []
theorem w_chk : ∀ k : Fin 17, checkT (tW k) = 0 := by decide +kernel
theorem w_bnd : ∀ k : Fin 17, boundV (tW k) (xv (k + 1)) = true := by decide +kernel
theorem w_bits : ∀ k : Fin 17, bitsV (xv (k + 1)) = (k : Nat) + 1 := by decide +kernel
theorem w_tab : ∀ k : Fin 16, tabE (tW k) (xv (k + 1)) = 0 := by decide +kernel
theorem w_tab7 : tabE (tW 16) (xv 17) = 7 := by decide +kernel
theorem w_idx : ∀ k : Fin 17, idxV (xn k) (xv (k + 1)) = some k.1 := by decide +kernel
theorem w_sum : ∀ k : Fin 17, (sumsN 0 (xv (k + 1))).getD k.1 0 = k.1 := by decide +kernel
theorem xv_len (n : Nat) : (xv n).length = n := by simp [xv]
theorem xv_get {n k : Nat} (h : k < n) : (xv n)[k]? = some ⟨xn k, 1⟩ := by unfold xv; rw [List.getElem?_map, List.getElem?_range h]; rfl
theorem xv_ok {n : Nat} : ∀ v ∈ xv n, okV2 v := by
  intro v hv
  obtain ⟨k, _, rfl⟩ := List.mem_map.1 hv
  exact ⟨by show (1 : Int) ≤ 1; decide, by show (1 : Int) ≤ 64; decide⟩
theorem xn_size (k : Nat) : (xn k).size = 2 := rfl
theorem tW_ok (k : Nat) : TOk (tW k) := tok_leaf (by decide) (by decide) ⟨by decide, by decide⟩ (by rw [xn_size]; decide)
theorem tW_count (k : Nat) : (tW k).count ≤ 1000000 := by show (1 : Nat) ≤ _; decide
theorem w_val {k : Nat} (hk : k < 17) (K : Nat) : (tW k).valT (envT (xv (k + 1)) K) = K / 2 ^ k % 2 := by
  rw [Term.valT_eq, if_pos (show (tW k).op = 1 from rfl)]
  have h1 := w_idx ⟨k, hk⟩
  have h2 := w_sum ⟨k, hk⟩
  simp only at h1 h2
  unfold envT
  show (match idxV (xn k) (xv (k + 1)) with | some i => K / 2 ^ ((sumsN 0 (xv (k + 1))).getD i 0) | none => 0) % 2 ^ cw 1 = _
  rw [h1]
  simp only
  rw [h2]
  rfl
theorem w_valB {k : Nat} (hk : k < 17) (K : Nat) : (tW k).valT (envB (assignT K (xv (k + 1)))) = K / 2 ^ k % 2 := by
  rw [← val_tab (w_chk ⟨k, hk⟩) (w_bnd ⟨k, hk⟩) K]
  exact w_val hk K
theorem w_tabV {k j : Nat} (hk : k < 17) (hj : j < 2 ^ (k + 1)) : (tabV (tW k) (xv (k + 1)) (k + 1))[j]? = some (j / 2 ^ k % 2) := by
  unfold tabV
  rw [List.getElem?_map, List.getElem?_range hj]
  exact congrArg some (w_valB hk j)
def b2sV (σ : Store) (v : AV) : Option AV := (rowsP σ v).bind fun rows => (omap (fun r : List PV => match r with | [.int .u8 n] => some (UInt8.ofNat n.toNat) | _ => none) rows).map fun bs => .p (.str ⟨bs.toArray⟩)
theorem op_b2s {x : O} : opRes P σ τ (.b2s x) = quietR σ (b2sV σ (x.val τ)) := op_quiet (op := .b2s x) rfl rfl
theorem w_b2s {o : Obj} {k : Nat} {fr : Bool} : b2sV [o, .pv 1 [[.int .u8 (97 + (k : Int))]] fr] (.sl 1 1) = some (.p (.str (bs [97 + k]))) := by
  have h : (97 + (k : Int)).toNat = 97 + k := by omega
  show some (AV.p (.str ⟨[UInt8.ofNat (97 + (k : Int)).toNat].toArray⟩)) = _
  rw [h]
  rfl
theorem w_cat (k : Nat) : arithV .add (.p (.str (bs [120]))) (.p (.str (bs [97 + k]))) = some (.p (.str (xn k))) := rfl
abbrev e_w9 (a : Int) (n : Nat) (s : List V2) (i : Int) : List (Nat × AV) := [(1, .p (.int .u32 a)), (5, .p (.int .i64 n)), (6, .sl 0 s.length), (7, .p (.int .i64 i))]
abbrev sWd9 (s : List V2) : Store := [.pv 2 (s.map vrow) false]
set_option maxHeartbeats 4000000 in
theorem l0_Wide (a : Int) (n : Nat) (hn : n ≤ 17) : loopAt P L0_law08_EvalTableWide (e_w9 a n [] 0) (sWd9 []) 112 none = back P [1, 5, 6, 7] B0_law08_EvalTableWide 1 (exec P B0_law08_EvalTableWide ⟨tm (e_w9 a n (xv n) n), sWd9 (xv n), 112, none⟩) := by
  obtain ⟨_, h⟩ := loop_run (P := P) (nt := 112) (lv := [1, 5, 6, 7]) (b := B0_law08_EvalTableWide) (rd := none) (as := List.range n) (fun i (s : List V2) => e_w9 a n s i) sWd9 (fun _ s k => s ++ [⟨xn k, 1⟩]) (fun i s => s.length = i)
    (fun i k s hk hi hs => by
      rw [List.length_range] at hi
      have hki : k = i := by
        rw [List.getElem?_range hi] at hk
        exact (Option.some.inj hk).symm
      subst hki
      have hlt : ((k : Int) < n) = True := by simp only [eq_iff_iff, iff_true]; exact Int.ofNat_lt.2 hi
      have hw : IntKind.i64.wrap (97 + (k : Int)) = 97 + (k : Int) := IntWalk.i64_in _ (by omega)
      have hc : IntKind.u8.wrap (97 + (k : Int)) = 97 + (k : Int) := by unfold IntKind.wrap; simp [IntKind.bits]; omega
      have hap := v_append (σ := sWd9 s ++ [.pv 1 [[.int .u8 (97 + (k : Int))]] false, .pv 2 [[.str (xn k), .int .i64 1]] false]) (b := 0) (n := s.length) (e := 2) (es := 2) (bytes := 24) (rows := s.map vrow) (new := [[.str (xn k), .int .i64 1]]) rfl (by simp) (.inl rfl) (by simp only [List.length_cons, List.length_nil]; omega)
      simp only [sWd9, List.cons_append, List.nil_append] at hap
      refine ⟨by simp [hs], ?_⟩
      simp only [B0_law08_EvalTableWide]
      simp (disch := omega) only [eqs, eqL, ↓gc_len, seval, -List.reduceReplicate, reduceCtorEq, omap, depth, pcall, pureR, freezeFor, freezeAll, tupR, resV, purR, enterTm, number, gcOk, rangeEnd, mkTup, allP, eqM, hlt, hw, hc, op_b2s, w_b2s, w_cat, src_21, hap, List.map_append, List.length_append, vrow, e_w9, sWd9]) (fun i s => rfl) [] rfl _ (fold_snoc (fun k => (⟨xn k, 1⟩ : V2)) (List.range n) 0 [])
  rw [List.nil_append, List.length_range] at h
  exact h
theorem w_frz {R : List (List PV)} {o : Obj} {n : Nat} : freezeAll [.pv 2 R false, o] (refs [.pv 2 R false, o] 12 (.sl 0 n)) = [.pv 2 R true, o] := rfl
theorem w_frt {R : List (List PV)} {o : Obj} {n : Nat} : freezeAll [.pv 2 R true, o] (refs [.pv 2 R true, o] 12 (.sl 0 n)) = [.pv 2 R true, o] := rfl
theorem w_shl {k : Nat} (h : k < 16) : arithV .shl (.p (.int .i64 1)) (.p (.int .u64 ((k + 1 : Nat) : Int))) = some (.p (.int .i64 ((2 ^ (k + 1) : Nat) : Int))) := by
  have : k = 0 ∨ k = 1 ∨ k = 2 ∨ k = 3 ∨ k = 4 ∨ k = 5 ∨ k = 6 ∨ k = 7 ∨ k = 8 ∨ k = 9 ∨ k = 10 ∨ k = 11 ∨ k = 12 ∨ k = 13 ∨ k = 14 ∨ k = 15 := by omega
  rcases this with rfl | rfl | rfl | rfl | rfl | rfl | rfl | rfl | rfl | rfl | rfl | rfl | rfl | rfl | rfl | rfl <;> rfl
theorem w_last (k : Nat) : (2 ^ (k + 1) - 1) / 2 ^ k % 2 = 1 := by
  have hp : 0 < 2 ^ k := Nat.pow_pos (by omega)
  have : 2 ^ (k + 1) - 1 = 2 ^ k * 1 + (2 ^ k - 1) := by rw [Nat.pow_succ]; omega
  rw [this, Nat.mul_add_div hp, Nat.div_eq_of_lt (by omega)]
theorem w_pur {R : List (List PV)} {r : Store} {fr : Bool} {n : Nat} (d : Nat) (h : R.length = n) : purify (.pv 2 R fr :: r) (d + 1) (.sl 0 n) = some (.lst R) := by simp [purify, h]
theorem w_ldo {R : List (List PV)} {k : Nat} {v : V2} (h : R[k]? = some (vrow v)) (hn : R.length = k + 1) : ldO (k + 1) k 0 1 false (some (.pv 2 R false)) = some (.p (.str v.name)) := by
  have hk : k < R.length := by omega
  have h2 : R[k] = vrow v := by rw [List.getElem?_eq_getElem hk] at h; exact Option.some.inj h
  simp [ldO, hn, h2]
  rfl
set_option maxHeartbeats 8000000 in
theorem p_EvalTableWide (n : Int) (hn : 0 ≤ n ∧ n ≤ 255) (a : Int) (ha : 0 ≤ a ∧ a ≤ 4294967295) : R P f_law08_EvalTableWide [.int .u8 n, .int .u32 a] = some (.bool true) := by
  obtain ⟨m, rfl⟩ : ∃ m : Nat, n = m := ⟨n.toNat, by omega⟩
  obtain ⟨c, rfl⟩ : ∃ c : Nat, a = c := ⟨a.toNat, by omega⟩
  have hv := s_live
  have hcv : IntKind.i64.wrap (m : Int) = m := IntWalk.i64_in _ (by omega)
  have hrem : arithV .rem (.p (.int .i64 (m : Int))) (.p (.int .i64 17)) = some (.p (.int .i64 ((m % 17 : Nat) : Int))) := by rw [v_rem (by omega)]; rfl
  have hk : m % 17 < 17 := Nat.mod_lt _ (by decide)
  generalize m % 17 = k at *
  have hb : IntKind.i64.wrap (1 + (k : Int)) = ((k + 1 : Nat) : Int) := by rw [IntWalk.i64_in _ (by omega)]; omega
  have hb1 : IntKind.i64.wrap (((k + 1 : Nat) : Int) - 1) = k := by rw [IntWalk.i64_in _ (by omega)]; omega
  have h0 : loopAt P L0_law08_EvalTableWide [(1, .p (.int .u32 c)), (5, .p (.int .i64 ((k + 1 : Nat) : Int))), (6, .sl 0 0), (7, .p (.int .i64 0))] [.pv 2 [] false] 112 none = _ := l0_Wide c (k + 1) (by omega)
  have hia : iadrSV [.pv 2 ((xv (k + 1)).map vrow) false] 2 (.sl 0 (k + 1)) (.p (.int .i64 k)) = some (.ptr 0 (k + 1) k 0) := ia_pv rfl (by simp [xv_len]) (by omega)
  have hl : (xv (k + 1)).length ≤ 40 := by rw [xv_len]; omega
  have hml : ((xv (k + 1)).map vrow).length = k + 1 := by rw [List.length_map, xv_len]
  have hld : ldO (k + 1) k 0 1 false (some (.pv 2 ((xv (k + 1)).map vrow) false)) = some (.p (.str (xn k))) := w_ldo (v := ⟨xn k, 1⟩) (by rw [List.getElem?_map, xv_get (Nat.lt_succ_self k)]; rfl) hml
  have hbl : buildV [.p (.int .i64 0), .p (.int .i64 0), .p (.int .u64 0), .p (.str (bs [])), .nils] [(0, 1, .p (.int .i64 1)), (1, 1, .p (.int .i64 1)), (3, 1, .p (.str (xn k)))] = some (.agg [.p (.int .i64 1), .p (.int .i64 1), .p (.int .u64 0), .p (.str (xn k)), .nils]) := rfl
  have hpu := fun (r : Store) (fr : Bool) (d : Nat) => w_pur (r := r) (fr := fr) d hml
  have hrow : (tW k).row = [.int .i64 1, .int .i64 1, .int .u64 0, .str (xn k), .lst []] := by unfold Term.row tW; rfl
  have hrn : ∀ σ d, refs σ d .nils = [] := fun σ d => by cases d <;> rfl
  rcases Nat.lt_or_ge k 16 with h16 | h16
  · have hT := n_Table (tW k) (tW_ok k) (tW_count k) (xv (k + 1)) hl (k + 1) (fun _ => ⟨w_bits ⟨k, by omega⟩, by omega⟩)
    unfold tableP at hT
    rw [if_pos (w_tab ⟨k, h16⟩), hrow] at hT
    have hfl : PV.flat (.tup [.lst ((tabV (tW k) (xv (k + 1)) (k + 1)).map urow), .int .i64 0]) = false := by
      have : (tabV (tW k) (xv (k + 1)) (k + 1)).length ≠ 0 := by
        unfold tabV
        rw [List.length_map, List.length_range]
        exact Nat.ne_of_gt (Nat.pow_pos (by omega))
      cases h : tabV (tW k) (xv (k + 1)) (k + 1) with
      | nil => rw [h] at this; exact absurd rfl this
      | cons x r => simp [PV.flat]
    have hgt : (16 < ((k + 1 : Nat) : Int)) = False := by simp only [eq_iff_iff, iff_false]; omega
    have hcvb : IntKind.u64.wrap ((k + 1 : Nat) : Int) = ((k + 1 : Nat) : Int) := IntWalk.u64_in _ (by omega)
    have hsh := w_shl h16
    have hlen : (tabV (tW k) (xv (k + 1)) (k + 1)).length = 2 ^ (k + 1) := by unfold tabV; rw [List.length_map, List.length_range]
    have hp : (2 : Nat) ^ (k + 1) ≤ 65536 := Nat.pow_le_pow_right (show 0 < 2 by omega) (show k + 1 ≤ 16 by omega)
    have hpos : 0 < (2 : Nat) ^ (k + 1) := Nat.pow_pos (by omega)
    have hg : ∀ j, j < 2 ^ (k + 1) → (tabV (tW k) (xv (k + 1)) (k + 1))[j]? = some (j / 2 ^ k % 2) := fun j hj => w_tabV hk hj
    have hgl := hg (2 ^ (k + 1) - 1) (by omega)
    rw [w_last] at hgl
    have hg0 := hg 0 hpos
    rw [Nat.zero_div] at hg0
    have hgj := hg (c % 2 ^ (k + 1)) (Nat.mod_lt _ hpos)
    have hj : c % 2 ^ (k + 1) < 65536 := Nat.lt_of_lt_of_le (Nat.mod_lt _ hpos) hp
    have hcvu : IntKind.u32.wrap ((2 ^ (k + 1) : Nat) : Int) = ((2 ^ (k + 1) : Nat) : Int) := IntWalk.u32_in _ ⟨Int.natCast_nonneg _, Int.le_trans (Int.ofNat_le.2 hp) (by decide)⟩
    have hrem2 : arithV .rem (.p (.int .u32 (c : Int))) (.p (.int .u32 ((2 ^ (k + 1) : Nat) : Int))) = some (.p (.int .u32 ((c % 2 ^ (k + 1) : Nat) : Int))) := by
      rw [v_rem (by omega)]
      rfl
    have hA := r_Assign (xv (k + 1)) xv_ok hl (c % 2 ^ (k + 1)) (by show _ < _; omega)
    have hE := s_eval_Eval (assignT (c % 2 ^ (k + 1)) (xv (k + 1))) (assign_W _ _) (by rw [assign_len]; omega) (tW k) (tW_ok k) (tW_count k)
    unfold evalP at hE
    rw [if_pos (w_chk ⟨k, hk⟩), if_pos (bound_assign (w_bnd ⟨k, hk⟩) _), w_valB hk, hrow] at hE
    have hfb : PV.flat (.lst ((assignT (c % 2 ^ (k + 1)) (xv (k + 1))).map brow)) = false := by
      have := assign_len (xv (k + 1)) (c % 2 ^ (k + 1))
      rw [xv_len] at this
      cases h : assignT (c % 2 ^ (k + 1)) (xv (k + 1)) with
      | nil => rw [h] at this; cases this
      | cons x r => simp [PV.flat]
    have hlm : (((2 ^ (k + 1) - 1 : Nat)) : Int) = ((2 ^ (k + 1) : Nat) : Int) - 1 := by omega
    generalize assignT (c % 2 ^ (k + 1)) (xv (k + 1)) = as at *
    generalize hjj : c % 2 ^ (k + 1) = j at *
    generalize j / 2 ^ k % 2 = x at *
    generalize tabV (tW k) (xv (k + 1)) (k + 1) = vs at *
    generalize (2 : Nat) ^ (k + 1) = b at *
    have hxj := fun σ => v_iadr (k := .i64) (es := 1) (σ := σ) (map_get (f := urow) hgj) (by simp [urow])
    have hx0 : ∀ σ, iadrSV σ 1 (.p (.lst (vs.map urow))) (.p (.int .i64 0)) = some (.p (.ptr (urow 0) 0)) := fun σ => v_iadr (k := .i64) (es := 1) (σ := σ) (map_get (f := urow) hg0) (by simp [urow])
    have hxl := fun σ => v_iadr (k := .i64) (es := 1) (σ := σ) (map_get (f := urow) hgl) (by simp [urow])
    have hcvj : IntKind.i64.wrap (j : Int) = j := IntWalk.i64_in _ (by omega)
    have hcvx : IntKind.u64.wrap (j : Int) = j := IntWalk.u64_in _ (by omega)
    have hw1 : IntKind.i64.wrap ((b : Int) - 1) = ((b - 1 : Nat) : Int) := by rw [IntWalk.i64_in _ (by omega)]; omega
    (rw [r_law08_EvalTableWide (Nat.le_of_ble_eq_true rfl), F_law08_EvalTableWide]; simp (disch := omega) only [eqs, eqL, ↓gc_len, seval, -List.reduceReplicate, reduceCtorEq, omap, depth, pcall, pureR, freezeFor, freezeAll, tupR, resV, purR, enterTm, number, gcOk, rangeEnd, mkTup, allP, eqM, hcv, hrem, hb, k0_law08_EvalTableWide, h0, xv_len, B0_law08_EvalTableWide, Int.lt_irrefl, hia, hb1, hld, hbl, z_init, hpu, q_eval_Table, hT, hfl, hrn, w_frz, w_frt, hgt, hcvb, hsh, hlen, List.length_map, hcvu, hrem2, hcvj, hcvx, q_r08_Assign, hA, hfb, q_eval_Eval, hE, hxj, hx0, hxl, hw1, urow, q_law08_live, hv])
  · have h7 : tabE (tW k) (xv (k + 1)) = 7 := by
      have hk16 : k = 16 := by omega
      subst hk16
      exact w_tab7
    have hT := n_Table (tW k) (tW_ok k) (tW_count k) (xv (k + 1)) hl 0 (fun h => by rw [h7] at h; cases h)
    unfold tableP at hT
    rw [if_neg (by rw [h7]; decide), h7, hrow] at hT
    have hgt : (16 < ((k + 1 : Nat) : Int)) = True := by simp only [eq_iff_iff, iff_true]; omega
    have hfl : PV.flat (.tup [.lst [], .int .i64 7]) = true := by simp [PV.flat]
    (rw [r_law08_EvalTableWide (Nat.le_of_ble_eq_true rfl), F_law08_EvalTableWide]; simp (disch := omega) only [eqs, eqL, ↓gc_len, seval, -List.reduceReplicate, reduceCtorEq, omap, depth, pcall, pureR, freezeFor, freezeAll, tupR, resV, purR, enterTm, number, gcOk, rangeEnd, mkTup, allP, eqM, hcv, hrem, hb, k0_law08_EvalTableWide, h0, xv_len, B0_law08_EvalTableWide, Int.lt_irrefl, hia, hb1, hld, hbl, z_init, hpu, q_eval_Table, hT, hfl, hgt, List.length_nil, q_law08_live, hv])
end Go.AE.S
