/- Cutting numbers to a width, by the program and by the reference. -/
import Derived.Test.YthljaicehpdkbaaB0
namespace Go.AE.S
open Go Go.AE
set_option linter.unusedSimpArgs false
set_option linter.unusedVariables false
variable {τ : Tm} {σ : Store} {rd : Option Nat}

def U64 (a : Int) : Prop := 0 ≤ a ∧ a ≤ 18446744073709551615
theorem ofInt_u64 {a : Int} (h : U64 a) : (BitVec.ofInt IntKind.u64.bits a).toNat = a.toNat := by
  obtain ⟨h1, h2⟩ := h
  rw [BitVec.toNat_ofInt]
  show (a % 18446744073709551616).toNat = _
  rw [Int.emod_eq_of_lt h1 (by omega)]
theorem nat_u64 {n : Nat} (h : n < 2 ^ 64) : IntKind.u64.wrap (n : Int) = n := IntWalk.u64_in _ ⟨by omega, by omega⟩
theorem u64_lt {a : Int} (h : U64 a) : a.toNat < 2 ^ 64 := by obtain ⟨h1, h2⟩ := h; omega
theorem u64_nat {n : Nat} (h : n < 2 ^ 64) : U64 (n : Int) := ⟨by omega, by omega⟩
theorem u64_and {a b : Int} (ha : U64 a) (hb : U64 b) : IntKind.u64.wrap (BitVec.ofInt IntKind.u64.bits a &&& BitVec.ofInt IntKind.u64.bits b).toNat = ((a.toNat &&& b.toNat : Nat) : Int) := by
  rw [BitVec.toNat_and, ofInt_u64 ha, ofInt_u64 hb]
  exact nat_u64 (Nat.and_lt_two_pow _ (u64_lt hb))
theorem u64_or {a b : Int} (ha : U64 a) (hb : U64 b) : IntKind.u64.wrap (BitVec.ofInt IntKind.u64.bits a ||| BitVec.ofInt IntKind.u64.bits b).toNat = ((a.toNat ||| b.toNat : Nat) : Int) := by
  rw [BitVec.toNat_or, ofInt_u64 ha, ofInt_u64 hb]
  exact nat_u64 (Nat.or_lt_two_pow (u64_lt ha) (u64_lt hb))
theorem u64_xor {a b : Int} (ha : U64 a) (hb : U64 b) : IntKind.u64.wrap (BitVec.ofInt IntKind.u64.bits a ^^^ BitVec.ofInt IntKind.u64.bits b).toNat = ((a.toNat ^^^ b.toNat : Nat) : Int) := by
  rw [BitVec.toNat_xor, ofInt_u64 ha, ofInt_u64 hb]
  exact nat_u64 (Nat.xor_lt_two_pow (u64_lt ha) (u64_lt hb))
theorem fdiv_nat {a : Int} (ha : 0 ≤ a) (k : Nat) : a.fdiv (2 ^ k) = ((a.toNat / 2 ^ k : Nat) : Int) := by
  have hp : (0 : Int) ≤ 2 ^ k := Int.le_of_lt (Int.pow_pos (by omega))
  rw [Int.fdiv_eq_ediv_of_nonneg _ hp]
  obtain ⟨n, rfl⟩ := Int.eq_ofNat_of_zero_le ha
  simp
def clampW (w : Int) : Int := min (max w 1) 64
theorem clamp_in (w : Int) : 1 ≤ clampW w ∧ clampW w ≤ 64 := by unfold clampW; omega
def maskW (w : Int) : Nat := 2 ^ (clampW w).toNat - 1
theorem mask_lt (w : Int) : maskW w < 2 ^ 64 := by
  have h := clamp_in w
  have := Nat.pow_le_pow_right (show 0 < 2 by omega) (show (clampW w).toNat ≤ 64 by omega)
  have := Nat.pow_pos (n := (clampW w).toNat) (show 0 < 2 by omega)
  unfold maskW
  omega
theorem all_shr {c : Nat} (h : 1 ≤ c ∧ c ≤ 64) : 18446744073709551615 / 2 ^ (64 - c) = 2 ^ c - 1 := by
  have key : ∀ n : Fin 65, 18446744073709551615 / 2 ^ (64 - n.1) = 2 ^ n.1 - 1 := by decide +kernel
  exact key ⟨c, by omega⟩
/-- A number cut to a width. -/
def cutW (w x : Int) : Int := ((x.toNat % 2 ^ (clampW w).toNat : Nat) : Int)
theorem cut_u64 (w : Int) {x : Int} (hx : U64 x) : U64 (cutW w x) := by
  exact u64_nat (Nat.lt_of_le_of_lt (Nat.mod_le x.toNat (2 ^ (clampW w).toNat)) (u64_lt hx))
def bitN (x : Nat) (i : Nat) : Nat := x / 2 ^ i % 2
theorem mod_bits (x k : Nat) : (x % 2 ^ k) ||| (bitN x k * 2 ^ k) = x % 2 ^ (k + 1) := by
  rw [Nat.mod_pow_succ, Nat.or_comm, Nat.mul_comm, ← Nat.two_pow_add_eq_or_of_lt (Nat.mod_lt _ (Nat.pow_pos (by omega)))]
  unfold bitN
  omega
abbrev e_rCut (x c y i : Int) : List (Nat × AV) := [(1, .p (.int .u64 x)), (5, .p (.int .u64 y)), (8, .p (.int .i64 c)), (9, .p (.int .i64 i))]
theorem foldE_inv {S α : Type} (f : Nat → S → α → S) (g : Nat → S) (as : List α) (i : Nat) (h : ∀ j a, g (j + 1) = f j (g j) a) : foldE (T := Empty) (fun i s a => .inl (f i s a)) i (g i) as = .inl (g (i + as.length)) := by
  induction as generalizing i with
  | nil => rfl
  | cons a as ih =>
    simp only [foldE]
    rw [← h i a, ih (i + 1), List.length_cons]
    congr 2
    omega
end Go.AE.S
/- Names, by the program and by the reference. -/
namespace Go.AE.S
open Go Go.AE
set_option linter.unusedSimpArgs false
set_option linter.unusedVariables false
variable {τ : Tm} {σ : Store} {rd : Option Nat}

theorem fold_allG {α : Type} (q : α → Bool) : ∀ (as : List α) (i : Nat), foldE (S := Unit) (T := Unit) (fun _ _ a => if q a = true then .inl () else .inr ()) i () as = if as.all q = true then .inl () else .inr ()
  | [], i => rfl
  | a :: as, i => by
    cases h : q a <;> simp [foldE, h, fold_allG q as]
theorem size_list (s : ByteArray) : s.data.toList.length = s.size := by rw [Array.length_toList]; rfl
theorem get_bytes (s : ByteArray) (i : Nat) : s[i]? = s.data.toList[i]? := by
  by_cases h : i < s.size
  · rw [getElem?_pos s i h, List.getElem?_eq_getElem (by rw [size_list]; exact h)]
    rfl
  · rw [getElem?_neg s i h, List.getElem?_eq_none (by rw [size_list]; omega)]
theorem v_idx {s : ByteArray} {i : Nat} {b : UInt8} {k : IntKind} (h : s.data.toList[i]? = some b) : idxSV (.p (.str s)) (.p (.int k i)) = some (.p (.int .u8 b.toNat)) := by
  simp only [idxSV, natOf, Int.natCast_nonneg, if_true, Option.bind_some, Int.toNat_natCast, get_bytes, h, Option.map_some]
theorem v_idx0 {s : ByteArray} {b : UInt8} {k : IntKind} (h : s.data.toList[0]? = some b) : idxSV (.p (.str s)) (.p (.int k 0)) = some (.p (.int .u8 b.toNat)) := v_idx (i := 0) h
def nameC (c : UInt8) : Bool := decide (97 ≤ c.toNat ∧ c.toNat ≤ 122 ∨ 48 ≤ c.toNat ∧ c.toNat ≤ 57 ∨ c.toNat = 95)
def nameOk (s : ByteArray) : Bool := decide (1 ≤ s.size ∧ s.size ≤ 16) && decide (97 ≤ (s.data.toList.getD 0 0).toNat ∧ (s.data.toList.getD 0 0).toNat ≤ 122) && s.data.toList.all nameC
abbrev e_Name (s : ByteArray) (i : Int) : List (Nat × AV) := [(0, .p (.str s)), (24, .p (.int .i64 s.size)), (25, .p (.int .i64 i))]
abbrev e_NameR (s : ByteArray) (i : Int) : List (Nat × AV) := [(0, .p (.str s)), (3, .p (.int .i64 i))]
theorem l_term_Name (s : ByteArray) (hl : s.size ≤ 16) : if s.data.toList.all nameC = true then
      loopAt P L0_term_Name (e_Name s 0) σ 50 rd = some (.exit 0, ⟨upd (tm (e_Name s s.size)) 26 (.p (.bool false)), σ, 50, rd⟩)
    else ∃ r, loopAt P L0_term_Name (e_Name s 0) σ 50 rd = some r ∧ ret1 2 (.bool false) σ r := by
  have h := loop_foldE (P := P) (nt := 50) (rd := rd) (lv := [0, 24, 25]) (b := B0_term_Name) (x := 0) (as := s.data.toList) (fun i (_ : Unit) => e_Name s i) (fun _ => σ) (fun i _ a => if nameC a = true then .inl () else .inr ())
    (fun _ => ⟨upd (tm (e_Name s s.size)) 26 (.p (.bool false)), σ, 50, rd⟩) (fun _ => ret1 2 (.bool false) σ) (fun _ _ => True)
    (fun i a _ ha hi hs => by
      refine ⟨fun _ _ => trivial, ?_⟩
      rw [size_list] at hi
      have hlt : ((i : Int) < s.size) = True := by simpa using hi
      have hix := v_idx (k := .i64) ha
      by_cases h1 : (a.toNat : Int) < 97 <;> by_cases h2 : (122 : Int) < a.toNat <;> by_cases h3 : (a.toNat : Int) < 48 <;> by_cases h4 : (57 : Int) < a.toNat <;> by_cases h5 : (a.toNat : Int) = 95
      all_goals first
        | (exfalso; omega)
        | (have hn : nameC a = true := by unfold nameC; rw [decide_eq_true_eq]; omega
           simp only [B0_term_Name]
           simp (disch := omega) only [eqs, eqL, ↓gc_len, seval, -List.reduceReplicate, reduceCtorEq, omap, depth, pcall, pureR, freezeFor, freezeAll, tupR, resV, purR, enterTm, number, gcOk, rangeEnd, mkTup, allP, hlt, hix, h1, h2, h3, h4, eq_true h5, hn, ret1]
           done)
        | (have hn : nameC a = false := by unfold nameC; rw [decide_eq_false_iff_not]; omega
           simp only [B0_term_Name]
           simp (disch := omega) only [eqs, eqL, ↓gc_len, seval, -List.reduceReplicate, reduceCtorEq, omap, depth, pcall, pureR, freezeFor, freezeAll, tupR, resV, purR, enterTm, number, gcOk, rangeEnd, mkTup, allP, hlt, hix, h1, h2, h3, h4, h5, hn, ret1]
           done)) (fun s' hs => by
      rw [size_list]
      simp only [B0_term_Name]
      simp (disch := omega) only [eqs, eqL, ↓gc_len, seval, -List.reduceReplicate, reduceCtorEq, omap, depth, pcall, pureR, freezeFor, freezeAll, tupR, resV, purR, enterTm, number, gcOk, rangeEnd, mkTup, allP, Int.lt_irrefl]) (fun i s => rfl) () trivial
  rw [fold_allG] at h
  exact (done_if h :)
theorem s_term_Name (s : ByteArray) : R P f_term_Name [.str s] = some (.bool (nameOk s)) := by
  unfold nameOk
  by_cases h1 : (s.size : Int) < 1
  · (rw [r_term_Name (Nat.le_of_ble_eq_true rfl), F_term_Name]; simp (disch := omega) only [eqs, eqL, ↓gc_len, seval, -List.reduceReplicate, reduceCtorEq, omap, depth, pcall, pureR, freezeFor, freezeAll, tupR, resV, purR, enterTm, number, gcOk, rangeEnd, mkTup, allP, h1])
    simp [show ¬ 1 ≤ s.size by omega]
  by_cases h2 : (16 : Int) < s.size
  · (rw [r_term_Name (Nat.le_of_ble_eq_true rfl), F_term_Name]; simp (disch := omega) only [eqs, eqL, ↓gc_len, seval, -List.reduceReplicate, reduceCtorEq, omap, depth, pcall, pureR, freezeFor, freezeAll, tupR, resV, purR, enterTm, number, gcOk, rangeEnd, mkTup, allP, h1, h2])
    simp [show ¬ s.size ≤ 16 by omega]
  have hlen := size_list s
  obtain ⟨b, hb⟩ : ∃ b, s.data.toList[0]? = some b := ⟨_, List.getElem?_eq_getElem (by omega)⟩
  have hix := v_idx0 (k := .i64) hb
  by_cases h3 : (b.toNat : Int) < 97
  · (rw [r_term_Name (Nat.le_of_ble_eq_true rfl), F_term_Name]; simp (disch := omega) only [eqs, eqL, ↓gc_len, seval, -List.reduceReplicate, reduceCtorEq, omap, depth, pcall, pureR, freezeFor, freezeAll, tupR, resV, purR, enterTm, number, gcOk, rangeEnd, mkTup, allP, h1, h2, hix, h3])
    simp [List.getD, hb, show ¬ 97 ≤ b.toNat by omega]
  by_cases h4 : (122 : Int) < b.toNat
  · (rw [r_term_Name (Nat.le_of_ble_eq_true rfl), F_term_Name]; simp (disch := omega) only [eqs, eqL, ↓gc_len, seval, -List.reduceReplicate, reduceCtorEq, omap, depth, pcall, pureR, freezeFor, freezeAll, tupR, resV, purR, enterTm, number, gcOk, rangeEnd, mkTup, allP, h1, h2, hix, h3, h4])
    simp [List.getD, hb, show ¬ b.toNat ≤ 122 by omega]
  have hL := l_term_Name (σ := []) (rd := none) s (by omega)
  by_cases ha : s.data.toList.all nameC = true
  · rw [if_pos ha] at hL
    (rw [r_term_Name (Nat.le_of_ble_eq_true rfl), F_term_Name]; simp (disch := omega) only [eqs, eqL, ↓gc_len, seval, -List.reduceReplicate, reduceCtorEq, omap, depth, pcall, pureR, freezeFor, freezeAll, tupR, resV, purR, enterTm, number, gcOk, rangeEnd, mkTup, allP, h1, h2, hix, h3, h4, k0_term_Name, hL])
    rw [ha]
    simp [List.getD, hb, show 97 ≤ b.toNat by omega, show b.toNat ≤ 122 by omega, show 1 ≤ s.size by omega, show s.size ≤ 16 by omega]
  · rw [if_neg ha] at hL
    obtain ⟨⟨e, τ', σ', nt', rd'⟩, h1', h2', h3', h4'⟩ := hL
    simp only at h2' h3' h4'
    subst h2'; subst h4'
    (rw [r_term_Name (Nat.le_of_ble_eq_true rfl), F_term_Name]; simp (disch := omega) only [eqs, eqL, ↓gc_len, seval, -List.reduceReplicate, reduceCtorEq, omap, depth, pcall, pureR, freezeFor, freezeAll, tupR, resV, purR, enterTm, number, gcOk, rangeEnd, mkTup, allP, h1, h2, hix, h3, h4, k0_term_Name, h1', h3'])
    rw [Bool.eq_false_iff.2 ha]
    simp
end Go.AE.S
/- Terms: sizes, depths, widths. -/
namespace Go.AE
namespace Term
mutual
def count : Term → Nat
  | .mk _ _ _ _ as => 1 + counts as
def counts : List Term → Nat
  | [] => 0
  | t :: r => t.count + counts r
end
mutual
def left : Term → Int → Int
  | .mk _ _ _ _ as, n => lefts as (n - 1)
def lefts : List Term → Int → Int
  | [], n => n
  | a :: as, n => if n < 0 then -1 else lefts as (a.left n)
end
mutual
def deep : Term → Nat
  | .mk _ _ _ _ as => deeps as + 1
def deeps : List Term → Nat
  | [] => 0
  | t :: r => max t.deep (deeps r)
end
theorem count_eq (t : Term) : t.count = 1 + counts t.args := by cases t; simp [count, args]
theorem left_eq (t : Term) (n : Int) : t.left n = lefts t.args (n - 1) := by cases t; simp [left, args]
theorem deep_eq (t : Term) : t.deep = deeps t.args + 1 := by cases t; simp [deep, args]
theorem counts_mem {l : List Term} {a : Term} (h : a ∈ l) : a.count ≤ counts l := by
  induction l with
  | nil => simp at h
  | cons b l ih =>
    simp only [counts]
    rcases List.mem_cons.1 h with rfl | h
    · omega
    · have := ih h; omega
theorem count_pos (t : Term) : 1 ≤ t.count := by rw [count_eq]; omega
theorem counts_len (l : List Term) : l.length ≤ counts l := by
  induction l with
  | nil => simp
  | cons b l ih => simp only [counts, List.length_cons]; have := count_pos b; omega
theorem deeps_mem {l : List Term} {a : Term} (h : a ∈ l) : a.deep ≤ deeps l := by
  induction l with
  | nil => simp at h
  | cons b l ih =>
    simp only [deeps]
    rcases List.mem_cons.1 h with rfl | h
    · omega
    · have := ih h; omega
/-- What is left is the budget less the count, as long as that is not negative. -/
theorem left_count : ∀ (t : Term) (n : Int), ((t.count : Int) ≤ n → t.left n = n - t.count) ∧ (n < t.count → t.left n < 0) := by
  apply ind
  intro t ih n
  have key : ∀ (l : List Term), (∀ a ∈ l, ∀ (n : Int), ((a.count : Int) ≤ n → a.left n = n - a.count) ∧ (n < a.count → a.left n < 0)) → ∀ n : Int, ((counts l : Int) ≤ n → lefts l n = n - counts l) ∧ (n < counts l → lefts l n < 0) := by
    intro l
    induction l with
    | nil => intro _ n; simp [lefts, counts]
    | cons a l ihl =>
      intro ha n
      have h1 := ha a (by simp) n
      have h2 := ihl (fun b hb => ha b (by simp [hb])) (a.left n)
      simp only [lefts, counts]
      have hc := count_pos a
      by_cases hn : n < 0
      · rw [if_pos hn]
        constructor
        · intro h; omega
        · intro; omega
      · rw [if_neg hn]
        by_cases hle : (a.count : Int) ≤ n
        · have e := h1.1 hle
          rw [e] at h2 ⊢
          constructor
          · intro h; rw [h2.1 (by omega)]; omega
          · intro h; exact h2.2 (by omega)
        · have e := h1.2 (by omega)
          constructor
          · intro h; omega
          · intro h; exact h2.2 (by omega)
  have hk := key t.args ih (n - 1)
  rw [left_eq, count_eq]
  constructor
  · intro h; rw [hk.1 (by omega)]; omega
  · intro h; exact hk.2 (by omega)
theorem left_nonneg (t : Term) (n : Int) : 0 ≤ t.left n ↔ (t.count : Int) ≤ n := by
  have h := left_count t n
  constructor
  · intro h0
    rcases Int.lt_or_le n t.count with h1 | h1
    · have := h.2 h1; omega
    · exact h1
  · intro h1
    rw [h.1 h1]; omega
theorem left_low : ∀ (t : Term) (n : Int), -9223372036854775807 ≤ n → n ≤ 1000000 → -9223372036854775808 ≤ t.left n ∧ t.left n ≤ 1000000 := by
  apply ind
  intro t ih n h1 h2
  rw [left_eq]
  have key : ∀ (l : List Term), (∀ a ∈ l, a ∈ t.args) → ∀ n : Int, -9223372036854775808 ≤ n → n ≤ 1000000 → -9223372036854775808 ≤ lefts l n ∧ lefts l n ≤ 1000000 := by
    intro l
    induction l with
    | nil => intro _ n h1 h2; exact ⟨h1, h2⟩
    | cons a l ihl =>
      intro ha n h1 h2
      simp only [lefts]
      by_cases hn : n < 0
      · rw [if_pos hn]; omega
      · rw [if_neg hn]
        have := ih a (ha a (by simp)) n (by omega) h2
        exact ihl (fun b hb => ha b (by simp [hb])) _ this.1 this.2
  exact key t.args (fun _ h => h) (n - 1) (by omega) (by omega)
end Term
namespace S
open Go Go.AE
set_option linter.unusedSimpArgs false
set_option linter.unusedVariables false
variable {τ : Tm} {σ : Store} {rd : Option Nat}

/-- Terms whose numbers fit, whose lists are not too long. -/
inductive TOk : Term → Prop
  | mk (t : Term) (h1 : -9223372036854775808 ≤ t.op ∧ t.op ≤ 9223372036854775807) (h2 : -9223372036854775808 ≤ t.w ∧ t.w ≤ 9223372036854775807) (h3 : U64 t.v) (h4 : t.name.size ≤ 9223372036854775807) (h5 : t.args.length ≤ 9223372036854775807) (h : ∀ a ∈ t.args, TOk a) : TOk t
theorem TOk.op {t : Term} (h : TOk t) : -9223372036854775808 ≤ t.op ∧ t.op ≤ 9223372036854775807 := by cases h; assumption
theorem TOk.w {t : Term} (h : TOk t) : -9223372036854775808 ≤ t.w ∧ t.w ≤ 9223372036854775807 := by cases h; assumption
theorem TOk.v {t : Term} (h : TOk t) : U64 t.v := by cases h; assumption
theorem TOk.name {t : Term} (h : TOk t) : t.name.size ≤ 9223372036854775807 := by cases h; assumption
theorem TOk.len {t : Term} (h : TOk t) : t.args.length ≤ 9223372036854775807 := by cases h; assumption
theorem TOk.args {t : Term} (h : TOk t) {a : Term} (ha : a ∈ t.args) : TOk a := by cases h; rename_i h; exact h a ha

abbrev e_left (t : Term) (m : Int) (i : Int) : List (Nat × AV) := [(1, .p (.int .i64 m)), (2, .p (.ptr t.row 0)), (10, .p (.int .i64 t.args.length)), (11, .p (.int .i64 i))]
theorem fold_left (l : List Term) : ∀ (i : Nat) (s : Int), doneP (fun s' => Term.lefts l s = s') (fun _ => Term.lefts l s = -1) (foldE (T := Unit) (fun _ s (a : Term) => if s < 0 then .inr () else .inl (a.left s)) i s l) := by
  induction l with
  | nil => intro i s; rfl
  | cons a l ih =>
    intro i s
    simp only [foldE, Term.lefts]
    by_cases h : s < 0
    · simp only [h, if_true]; trivial
    · simp only [h, if_false]; exact ih _ _
end S
end Go.AE
/- Terms: sizes, depths, equality, widths. -/
namespace Go.AE
namespace Term
mutual
def beq : Term → Term → Bool
  | .mk o w v s as, .mk o' w' v' s' as' => decide (o = o') && decide (w = w') && decide (v = v') && decide (s = s') && beqs as as'
def beqs : List Term → List Term → Bool
  | [], [] => true
  | a :: as, b :: bs => beq a b && beqs as bs
  | _, _ => false
end
theorem beq_eq (t u : Term) : t.beq u = (decide (t.op = u.op) && decide (t.w = u.w) && decide (t.v = u.v) && decide (t.name = u.name) && beqs t.args u.args) := by cases t; cases u; rw [beq]; rfl
theorem beq_iff : ∀ (t u : Term), t.beq u = true ↔ t = u := by
  apply ind
  intro t ih u
  have key : ∀ (l m : List Term), (∀ a ∈ l, ∀ u, a.beq u = true ↔ a = u) → (beqs l m = true ↔ l = m) := by
    intro l
    induction l with
    | nil => intro m _; cases m <;> simp [beqs]
    | cons a l ihl =>
      intro m h
      cases m with
      | nil => simp [beqs]
      | cons b m =>
        simp only [beqs, Bool.and_eq_true, List.cons.injEq]
        rw [h a (by simp) b, ihl m (fun x hx => h x (by simp [hx]))]
  have hk := key t.args u.args ih
  rw [beq_eq]
  simp only [Bool.and_eq_true, decide_eq_true_eq, hk]
  cases t; cases u
  simp only [op, w, v, name, args, mk.injEq]
  constructor
  · rintro ⟨⟨⟨⟨a, b⟩, c⟩, d⟩, e⟩; exact ⟨a, b, c, d, e⟩
  · rintro ⟨a, b, c, d, e⟩; exact ⟨⟨⟨⟨a, b⟩, c⟩, d⟩, e⟩
theorem beqs_len {l m : List Term} (h : l.length ≠ m.length) : beqs l m = false := by
  induction l generalizing m with
  | nil => cases m <;> simp_all [beqs]
  | cons a l ih => cases m with
    | nil => rfl
    | cons b m => simp only [beqs, ih (m := m) (by simpa using h), Bool.and_false]
theorem beqs_zip {l m : List Term} (h : l.length = m.length) : (l.zip m).all (fun x => x.1.beq x.2) = beqs l m := by
  induction l generalizing m with
  | nil => cases m <;> simp_all [beqs]
  | cons a l ih => cases m with
    | nil => simp at h
    | cons b m => simp only [beqs, List.zip_cons_cons, List.all_cons, ih (m := m) (by simpa using h)]
end Term
namespace S
open Go Go.AE
set_option linter.unusedSimpArgs false
set_option linter.unusedVariables false
variable {τ : Tm} {σ : Store} {rd : Option Nat}

theorem counts_take (as : List Term) (i : Nat) (a : Term) (h : as[i]? = some a) : Term.counts (as.take (i + 1)) = Term.counts (as.take i) + a.count := by
  induction as generalizing i with
  | nil => simp at h
  | cons b as ih =>
    cases i with
    | zero => simp at h; subst h; simp [Term.counts]
    | succ i => simp only [List.take_succ_cons, Term.counts]; rw [ih i (by simpa using h)]; omega
theorem counts_take_le (as : List Term) (i : Nat) : Term.counts (as.take i) ≤ Term.counts as := by
  induction as generalizing i with
  | nil => simp [Term.counts]
  | cons b as ih =>
    cases i with
    | zero => simp [Term.counts]
    | succ i => simp only [List.take_succ_cons, Term.counts]; have := ih i; omega
theorem foldE_count (as : List Term) : ∀ (i : Nat) (acc : Int), foldE (T := Empty) (fun _ s (a : Term) => .inl (s + (a.count : Int))) i acc as = .inl (acc + (Term.counts as : Int)) := by
  induction as with
  | nil => intro i acc; simp [foldE, Term.counts]
  | cons a as ih => intro i acc; simp only [foldE, Term.counts]; rw [ih]; congr 1; omega
abbrev e_Size (as : List Term) (s i : Int) : List (Nat × AV) := [(3, .p (.int .i64 s)), (7, .p (.lst (as.map Term.row))), (8, .p (.int .i64 as.length)), (9, .p (.int .i64 i))]
theorem s_term_Size (t : Term) : t.count ≤ 1000000 → R P f_term_Size [.agg t.row] = some (.int .i64 t.count) := by
  induction t using Term.ind with
  | h t ih =>
  intro hc
  rw [Term.count_eq] at hc ⊢
  have hlen := Term.counts_len t.args
  have h := loop_fold (P := P) (nt := 19) (rd := none) (lv := [3, 7, 8, 9]) (b := B0_term_Size) (x := 0) (as := t.args) (fun i (s : Int) => e_Size t.args s i) (fun _ => []) (fun i s a => s + (a.count : Int)) (fun s => ⟨upd (tm (e_Size t.args s t.args.length)) 10 (.p (.bool false)), [], 19, none⟩) (fun i s => s = 1 + Term.counts (t.args.take i))
    (fun i a s ha hi hs => by
      have hm := List.mem_of_getElem? ha
      have hac := Term.counts_mem hm
      have h1 := counts_take t.args i a ha
      have h2 := counts_take_le t.args (i + 1)
      have hr := ih a hm (by omega)
      have hlt : ((i : Int) < t.args.length) = True := by simpa using hi
      have hw : IntKind.i64.wrap (s + a.count) = s + a.count := w_id (by omega)
      refine ⟨by omega, ?_⟩
      simp only [B0_term_Size]
      simp (disch := omega) only [eqs, eqL, ↓gc_len, seval, -List.reduceReplicate, reduceCtorEq, omap, depth, pcall, pureR, freezeFor, freezeAll, tupR, resV, purR, enterTm, number, gcOk, rangeEnd, mkTup, allP, hlt, v_iadr (map_get (f := Term.row) ha) a.row_len, q_term_Size, hr, hw]) (fun s hs => by
      simp only [B0_term_Size]
      simp (disch := omega) only [eqs, eqL, ↓gc_len, seval, -List.reduceReplicate, reduceCtorEq, omap, depth, pcall, pureR, freezeFor, freezeAll, tupR, resV, purR, enterTm, number, gcOk, rangeEnd, mkTup, allP, Int.lt_irrefl]) (fun i s => rfl) 1 (by simp [Term.counts]) _ (foldE_count t.args 0 1)
  have h' : loopAt P L0_term_Size (e_Size t.args 1 0) [] 19 none = some (.exit 0, ⟨upd (tm (e_Size t.args (1 + Term.counts t.args) t.args.length)) 10 (.p (.bool false)), [], 19, none⟩) := h
  (rw [r_term_Size (Nat.le_of_ble_eq_true rfl), F_term_Size]; simp (disch := omega) only [eqs, eqL, ↓gc_len, seval, -List.reduceReplicate, reduceCtorEq, omap, depth, pcall, pureR, freezeFor, freezeAll, tupR, resV, purR, enterTm, number, gcOk, rangeEnd, mkTup, allP, List.length_map, k0_term_Size, h'])
  rfl
abbrev e_Count (t : Term) (s i : Int) : List (Nat × AV) := [(1, .p (.ptr t.row 0)), (3, .p (.int .i64 s)), (7, .p (.int .i64 t.args.length)), (8, .p (.int .i64 i))]
theorem deep_count (t : Term) : t.deep ≤ t.count := by
  induction t using Term.ind with
  | h t ih =>
  rw [Term.deep_eq, Term.count_eq]
  have key : ∀ l : List Term, (∀ a ∈ l, a.deep ≤ a.count) → Term.deeps l ≤ Term.counts l := by
    intro l
    induction l with
    | nil => intro _; simp [Term.deeps, Term.counts]
    | cons a l ihl => intro h; simp only [Term.deeps, Term.counts]; have := h a (by simp); have := ihl (fun b hb => h b (by simp [hb])); omega
  have := key t.args ih
  omega
theorem foldE_deep (as : List Term) : ∀ (i : Nat) (acc : Int), 0 ≤ acc → foldE (T := Empty) (fun _ s (a : Term) => .inl (max s (a.deep : Int))) i acc as = .inl (max acc (Term.deeps as : Int)) := by
  induction as with
  | nil => intro i acc h; simp [foldE, Term.deeps]; omega
  | cons a as ih => intro i acc h; simp only [foldE, Term.deeps]; rw [ih _ _ (by omega)]; congr 1; omega
theorem s_term_Depth (t : Term) : t.count ≤ 1000000 → R P f_term_Depth [.agg t.row] = some (.int .i64 t.deep) := by
  induction t using Term.ind with
  | h t ih =>
  intro hc
  have hdc := deep_count t
  rw [Term.deep_eq] at hdc ⊢
  have hcc := Term.count_eq t
  have hlen := Term.counts_len t.args
  have h := loop_fold (P := P) (nt := 20) (rd := none) (lv := [3, 7, 8, 9]) (b := B0_term_Depth) (x := 0) (as := t.args) (fun i (s : Int) => e_Size t.args s i) (fun _ => []) (fun i s a => max s (a.deep : Int)) (fun s => ⟨upd (tm (e_Size t.args s t.args.length)) 10 (.p (.bool false)), [], 20, none⟩) (fun i s => True)
    (fun i a s ha hi hs => by
      have hm := List.mem_of_getElem? ha
      have hac := Term.counts_mem hm
      have hr := ih a hm (by omega)
      have hlt : ((i : Int) < t.args.length) = True := by simpa using hi
      refine ⟨trivial, ?_⟩
      simp only [B0_term_Depth]
      simp (disch := omega) only [eqs, eqL, ↓gc_len, seval, -List.reduceReplicate, reduceCtorEq, omap, depth, pcall, pureR, freezeFor, freezeAll, tupR, resV, purR, enterTm, number, gcOk, rangeEnd, mkTup, allP, hlt, v_iadr (map_get (f := Term.row) ha) a.row_len, q_term_Depth, hr]) (fun s hs => by
      simp only [B0_term_Depth]
      simp (disch := omega) only [eqs, eqL, ↓gc_len, seval, -List.reduceReplicate, reduceCtorEq, omap, depth, pcall, pureR, freezeFor, freezeAll, tupR, resV, purR, enterTm, number, gcOk, rangeEnd, mkTup, allP, Int.lt_irrefl]) (fun i s => rfl) 0 trivial _ (foldE_deep t.args 0 0 (by omega))
  have h' : loopAt P L0_term_Depth (e_Size t.args 0 0) [] 20 none = some (.exit 0, ⟨upd (tm (e_Size t.args (Term.deeps t.args) t.args.length)) 10 (.p (.bool false)), [], 20, none⟩) := by
    have e : max (0 : Int) (Term.deeps t.args : Int) = Term.deeps t.args := by omega
    rw [e] at h
    exact h
  (rw [r_term_Depth (Nat.le_of_ble_eq_true rfl), F_term_Depth]; simp (disch := omega) only [eqs, eqL, ↓gc_len, seval, -List.reduceReplicate, reduceCtorEq, omap, depth, pcall, pureR, freezeFor, freezeAll, tupR, resV, purR, enterTm, number, gcOk, rangeEnd, mkTup, allP, List.length_map, k0_term_Depth, h'])
abbrev e_Deep (t : Term) (n i : Int) : List (Nat × AV) := [(1, .p (.int .i64 n)), (2, .p (.ptr t.row 0)), (5, .p (.int .i64 i))]
theorem deeps_all (as : List Term) (n : Int) (h0 : 0 ≤ n) : as.all (fun a => decide ((a.deep : Int) ≤ n)) = decide ((Term.deeps as : Int) ≤ n) := by
  induction as with
  | nil => simp [Term.deeps, h0]
  | cons a as ih =>
    have e : ((Term.deeps (a :: as) : Nat) : Int) ≤ n ↔ (a.deep : Int) ≤ n ∧ (Term.deeps as : Int) ≤ n := by
      simp only [Term.deeps]
      rcases Nat.le_total a.deep (Term.deeps as) with h | h
      · rw [Nat.max_eq_right h]; omega
      · rw [Nat.max_eq_left h]; omega
    rw [List.all_cons, ih, Bool.eq_iff_iff]
    simp only [Bool.and_eq_true, decide_eq_true_eq, e]
end S
end Go.AE
/- Terms: equality, widths, orders. -/
namespace Go.AE
namespace Term
mutual
def pre : Term → List Term
  | .mk o w v s as => .mk o w v s as :: pres as
def pres : List Term → List Term
  | [] => []
  | a :: as => pre a ++ pres as
end
mutual
def post : Term → List Term
  | .mk o w v s as => posts as ++ [.mk o w v s as]
def posts : List Term → List Term
  | [] => []
  | a :: as => post a ++ posts as
end
theorem pre_eq (t : Term) : t.pre = t :: pres t.args := by cases t; rw [pre]; rfl
theorem post_eq (t : Term) : t.post = posts t.args ++ [t] := by cases t; rw [post]; rfl
theorem pres_eq : ∀ l : List Term, pres l = l.flatMap pre
  | [] => rfl
  | a :: l => by rw [pres, pres_eq l]; rfl
theorem posts_eq : ∀ l : List Term, posts l = l.flatMap post
  | [] => rfl
  | a :: l => by rw [posts, posts_eq l]; rfl
theorem pres_len : ∀ l : List Term, (∀ a ∈ l, a.pre.length = a.count) → (pres l).length = counts l
  | [], _ => rfl
  | a :: l, h => by rw [pres, counts, List.length_append, h a (by simp), pres_len l fun b hb => h b (by simp [hb])]
theorem pre_len (t : Term) : t.pre.length = t.count := by
  induction t using ind with
  | h t ih => rw [pre_eq, count_eq, List.length_cons, pres_len _ ih]; omega
theorem posts_len : ∀ l : List Term, (∀ a ∈ l, a.post.length = a.count) → (posts l).length = counts l
  | [], _ => rfl
  | a :: l, h => by rw [posts, counts, List.length_append, h a (by simp), posts_len l fun b hb => h b (by simp [hb])]
theorem post_len (t : Term) : t.post.length = t.count := by
  induction t using ind with
  | h t ih => rw [post_eq, count_eq, List.length_append, posts_len _ ih]; simp; omega
end Term
namespace S
open Go Go.AE
set_option linter.unusedSimpArgs false
set_option linter.unusedVariables false
variable {τ : Tm} {σ : Store} {rd : Option Nat}

abbrev e_Same (t u : Term) (i : Int) : List (Nat × AV) := [(2, .p (.ptr t.row 0)), (3, .p (.ptr u.row 0)), (43, .p (.int .i64 t.args.length)), (44, .p (.int .i64 i))]
theorem fold_app {α β : Type} (g : α → List β) : ∀ (l : List α) (i : Nat) (s : List β), foldE (T := Empty) (fun _ s a => .inl (s ++ g a)) i s l = .inl (s ++ l.flatMap g)
  | [], i, s => by simp [foldE]
  | a :: l, i, s => by simp only [foldE]; rw [fold_app g l]; simp
abbrev e_Pre (t : Term) (s : List Term) (i : Int) : List (Nat × AV) := [(1, .p (.ptr t.row 0)), (3, .sl 0 s.length), (4, .p (.int .i64 i))]
abbrev sT (s : List Term) : Store := [.pv 5 (s.map Term.row) false]
theorem flatMap_take_le {g : Term → List Term} (hg : ∀ a, (g a).length = a.count) (l : List Term) (i : Nat) : ((l.take i).flatMap g).length ≤ Term.counts l := by
  induction l generalizing i with
  | nil => simp [Term.counts]
  | cons a l ih =>
    cases i with
    | zero => simp
    | succ i => simp only [List.take_succ_cons, List.flatMap_cons, List.length_append, hg, Term.counts]; have := ih i; omega
theorem take_flatMap {g : Term → List Term} {l : List Term} {i : Nat} {a : Term} (h : l[i]? = some a) : (l.take (i + 1)).flatMap g = (l.take i).flatMap g ++ g a := by
  rw [List.take_add_one, h]; simp
theorem fold_snoc {α β : Type} (g : α → β) : ∀ (l : List α) (i : Nat) (s : List β), foldE (T := Empty) (fun _ s a => .inl (s ++ [g a])) i s l = .inl (s ++ l.map g)
  | [], i, s => by simp [foldE]
  | a :: l, i, s => by simp only [foldE]; rw [fold_snoc g l]; simp
def esOf {α : Type} (n : Nat) (s : List α) : Nat := if s.isEmpty then 0 else n
theorem esOf_or {α : Type} (n : Nat) (s : List α) {β : Type} (f : α → β) : esOf n s = n ∨ (esOf n s = 0 ∧ s.map f = []) := by cases s <;> simp [esOf]
theorem esOf_snoc {α : Type} (n : Nat) (s : List α) (a : α) : esOf n (s ++ [a]) = n := by simp [esOf]
abbrev e_wid (l : List Term) (s : List Int) (i : Int) : List (Nat × AV) := [(3, .sl 0 s.length), (6, .p (.lst (l.map Term.row))), (7, .p (.int .i64 l.length)), (8, .p (.int .i64 i))]
abbrev sI (s : List Int) : Store := [.pv (esOf 1 s) (s.map irow) false]
abbrev e_widR (t : Term) (s : List Int) (i : Int) : List (Nat × AV) := [(1, .p (.ptr t.row 0)), (3, .sl 0 s.length), (4, .p (.int .i64 i))]
abbrev sI1 (s : List Int) : Store := [.pv 1 (s.map irow) false]
end S
end Go.AE
