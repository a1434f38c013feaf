/- The variables of patterns: order of names, binary search, insertion. --M-- -/
import Derived.Test.YthljaicehpdkbaaB3
namespace Go.AE.S
open Go Go.AE
set_option linter.unusedSimpArgs false
set_option linter.unusedVariables false
variable {τ : Tm} {σ : Store} {rd : Option Nat}

/-! ### the order of strings -/
theorem less_irrefl : ∀ a : List UInt8, Op.bytesLess a a = false
  | [] => rfl
  | a :: l => by
    unfold Op.bytesLess
    simp [less_irrefl l, UInt8.lt_irrefl]
theorem less_trans : ∀ a b c : List UInt8, Op.bytesLess a b = true → Op.bytesLess b c = true → Op.bytesLess a c = true
  | _, _, [], _, h => by cases ‹List UInt8› <;> simp [Op.bytesLess] at h
  | _, [], _ :: _, h, _ => by cases ‹List UInt8› <;> simp [Op.bytesLess] at h
  | [], _ :: _, _ :: _, _, _ => rfl
  | a :: x, b :: y, c :: z, h, h' => by
    unfold Op.bytesLess at h h' ⊢
    simp only [Bool.or_eq_true, decide_eq_true_eq, Bool.and_eq_true, beq_iff_eq] at h h' ⊢
    rcases h with h | ⟨rfl, h⟩
    · rcases h' with h' | ⟨rfl, h'⟩
      · exact .inl (UInt8.lt_trans h h')
      · exact .inl h
    · rcases h' with h' | ⟨rfl, h'⟩
      · exact .inl h'
      · exact .inr ⟨rfl, less_trans x y z h h'⟩
theorem less_tri : ∀ a b : List UInt8, Op.bytesLess a b = true ∨ a = b ∨ Op.bytesLess b a = true
  | [], [] => .inr (.inl rfl)
  | [], _ :: _ => .inl rfl
  | _ :: _, [] => .inr (.inr rfl)
  | a :: x, b :: y => by
    unfold Op.bytesLess
    simp only [Bool.or_eq_true, decide_eq_true_eq, Bool.and_eq_true, beq_iff_eq, List.cons.injEq]
    rcases less_tri x y with h | h | h
    · by_cases h1 : a < b
      · exact .inl (.inl h1)
      · by_cases h2 : b < a
        · exact .inr (.inr (.inl h2))
        · have : a = b := UInt8.le_antisymm (UInt8.not_lt.1 h2) (UInt8.not_lt.1 h1)
          exact .inl (.inr ⟨this, h⟩)
    · by_cases h1 : a < b
      · exact .inl (.inl h1)
      · by_cases h2 : b < a
        · exact .inr (.inr (.inl h2))
        · have : a = b := UInt8.le_antisymm (UInt8.not_lt.1 h2) (UInt8.not_lt.1 h1)
          exact .inr (.inl ⟨this, h⟩)
    · by_cases h1 : a < b
      · exact .inl (.inl h1)
      · by_cases h2 : b < a
        · exact .inr (.inr (.inl h2))
        · have : a = b := UInt8.le_antisymm (UInt8.not_lt.1 h2) (UInt8.not_lt.1 h1)
          exact .inr (.inr (.inr ⟨this.symm, h⟩))
theorem slt_irrefl (a : ByteArray) : slt a a = false := less_irrefl _
theorem slt_trans {a b c : ByteArray} (h : slt a b = true) (h' : slt b c = true) : slt a c = true := less_trans _ _ _ h h'
theorem slt_tri (a b : ByteArray) : slt a b = true ∨ a = b ∨ slt b a = true := by
  rcases less_tri a.toList b.toList with h | h | h
  · exact .inl h
  · exact .inr (.inl (bytes_ext.1 h))
  · exact .inr (.inr h)
theorem slt_ne {a b : ByteArray} (h : slt a b = true) : ¬ a = b := by rintro rfl; rw [slt_irrefl] at h; cases h
theorem slt_asym {a b : ByteArray} (h : slt a b = true) : slt b a = false := by
  rw [Bool.eq_false_iff]; intro h'; have := slt_trans h h'; rw [slt_irrefl] at this; cases this
theorem cmp_cases (a b : ByteArray) : cmpStr a b = if a = b then 0 else if slt a b = true then -1 else 1 := by
  unfold cmpStr slt
  by_cases h : a = b
  · rw [if_pos (bytes_ext.2 h), if_pos h]
  · rw [if_neg (fun x => h (bytes_ext.1 x)), if_neg h]
theorem cmp_neg (a b : ByteArray) : cmpStr a b < 0 ↔ slt a b = true := by
  rw [cmp_cases]
  by_cases h : a = b
  · subst h; simp [slt_irrefl]
  · by_cases h2 : slt a b = true <;> simp [h, h2]
theorem cmp_zero (a b : ByteArray) : cmpStr a b = 0 ↔ a = b := by
  rw [cmp_cases]
  by_cases h : a = b
  · simp [h]
  · by_cases h2 : slt a b = true <;> simp [h, h2]
theorem cmp_i64 (a b : ByteArray) : -1 ≤ cmpStr a b ∧ cmpStr a b ≤ 1 := by
  rw [cmp_cases]; split; omega; split <;> omega
theorem s_CompareString (a b : ByteArray) : R P f_internal_bytealg_CompareString [.str a, .str b] = some (.int .i64 (cmpStr a b)) := by
  (rw [r_internal_bytealg_CompareString (Nat.le_of_ble_eq_true rfl), F_internal_bytealg_CompareString]; simp (disch := omega) only [eqs, eqL, ↓gc_len, seval, -List.reduceReplicate, reduceCtorEq, omap, depth, pcall, pureR, freezeFor, freezeAll, tupR, resV, purR, enterTm, number, gcOk, rangeEnd, mkTup, allP, eqM, q_internal_bytealg_abigen_runtime_cmpstring, purePrim, primCompare, Option.bind_some])
theorem s_strings_Compare (a b : ByteArray) : R P f_strings_Compare [.str a, .str b] = some (.int .i64 (cmpStr a b)) := by
  (rw [r_strings_Compare (Nat.le_of_ble_eq_true rfl), F_strings_Compare]; simp (disch := omega) only [eqs, eqL, ↓gc_len, seval, -List.reduceReplicate, reduceCtorEq, omap, depth, pcall, pureR, freezeFor, freezeAll, tupR, resV, purR, enterTm, number, gcOk, rangeEnd, mkTup, allP, eqM, q_internal_bytealg_CompareString, s_CompareString])
def bsF (s : List V2) (k : ByteArray) (x : Nat × Nat) : (Nat × Nat) ⊕ (Nat × Nat) :=
  if x.1 < x.2 then
    match s[(x.1 + x.2) / 2]? with
    | some v => if slt v.name k = true then .inl ((x.1 + x.2) / 2 + 1, x.2) else .inl (x.1, (x.1 + x.2) / 2)
    | none => .inr x
  else .inr x
structure BsOk (s : List V2) (k : ByteArray) (x : Nat × Nat) : Prop where
  le : x.1 ≤ x.2
  hi : x.2 ≤ s.length
  low : ∀ i v, i < x.1 → s[i]? = some v → slt v.name k = true
  up : ∀ i v, x.2 ≤ i → s[i]? = some v → slt v.name k = false
def Sorted (s : List V2) : Prop := s.Pairwise fun a b => slt a.name b.name = true
theorem sorted_get {s : List V2} (h : Sorted s) {i j : Nat} {v u : V2} (hij : i < j) (hi : s[i]? = some v) (hj : s[j]? = some u) : slt v.name u.name = true := by
  obtain ⟨h1, rfl⟩ := List.getElem?_eq_some_iff.1 hi
  obtain ⟨h2, rfl⟩ := List.getElem?_eq_some_iff.1 hj
  exact List.pairwise_iff_getElem.1 h i j h1 h2 hij
theorem mid_eq {i j : Nat} (h : i + j < 2000001) : IntKind.i64.wrap (((IntKind.u64.wrap (IntKind.i64.wrap ((i : Int) + j))).fdiv (2 ^ min (1 : Int).toNat IntKind.u64.bits))) = (((i + j) / 2 : Nat) : Int) := by
  rw [IntWalk.i64_in ((i : Int) + j) (by omega), IntWalk.u64_in _ (by omega), show min (1 : Int).toNat IntKind.u64.bits = 1 from rfl, fdiv_nat (by omega)]
  rw [show ((i : Int) + j).toNat = i + j by omega]
  exact IntWalk.i64_in _ (by omega)
abbrev names (s : List V2) : List ByteArray := s.map (·.name)
def inN (s : List V2) (k : ByteArray) : Bool := s.any fun u => decide (u.name = k)
theorem inN_iff (s : List V2) (k : ByteArray) : inN s k = true ↔ k ∈ names s := by
  unfold inN names
  rw [List.any_eq_true, List.mem_map]
  constructor
  · rintro ⟨u, h1, h2⟩; exact ⟨u, h1, by simpa using h2⟩
  · rintro ⟨u, h1, h2⟩; exact ⟨u, h1, by simpa using h2⟩
end Go.AE.S
/- The variables of patterns, by the program. --M-- -/
namespace Go.AE.S
open Go Go.AE
set_option linter.unusedSimpArgs false
set_option linter.unusedVariables false
variable {τ : Tm} {σ : Store} {rd : Option Nat}

def insV : List V2 → V2 → List V2
  | [], v => [v]
  | a :: r, v => if a.name = v.name then a :: r else if slt v.name a.name = true then v :: a :: r else a :: insV r v
theorem insV_len : ∀ (s : List V2) (v : V2), (insV s v).length ≤ s.length + 1
  | [], v => by simp [insV]
  | a :: r, v => by
    simp only [insV]
    have := insV_len r v
    split
    · simp
    · split
      · simp
      · simp only [List.length_cons]; omega
theorem insV_mem : ∀ {s : List V2} {v x : V2}, x ∈ insV s v → x = v ∨ x ∈ s
  | [], v, x, h => by simp [insV] at h; exact .inl h
  | a :: r, v, x, h => by
    simp only [insV] at h
    split at h
    · exact .inr h
    · split at h
      · rcases List.mem_cons.1 h with h | h
        · exact .inl h
        · exact .inr h
      · rcases List.mem_cons.1 h with h | h
        · exact .inr (by simp [h])
        · rcases insV_mem h with h | h
          · exact .inl h
          · exact .inr (by simp [h])
theorem insV_sorted : ∀ {s : List V2} {v : V2}, Sorted s → Sorted (insV s v)
  | [], v, _ => by simp [insV, Sorted]
  | a :: r, v, h => by
    have hr : Sorted r := (List.pairwise_cons.1 h).2
    have ha := (List.pairwise_cons.1 h).1
    simp only [insV]
    split
    · exact h
    · rename_i h1
      split
      · rename_i h2
        refine List.pairwise_cons.2 ⟨fun x hx => ?_, h⟩
        rcases List.mem_cons.1 hx with rfl | hx
        · exact h2
        · exact slt_trans h2 (ha x hx)
      · rename_i h2
        refine List.pairwise_cons.2 ⟨fun x hx => ?_, insV_sorted hr⟩
        rcases insV_mem hx with rfl | hx
        · rcases slt_tri a.name x.name with h | h | h
          · exact h
          · exact absurd h h1
          · exact absurd h h2
        · exact ha x hx
theorem insV_in : ∀ {s : List V2} {v : V2}, Sorted s → inN s v.name = true → insV s v = s
  | [], v, _, h => by simp [inN] at h
  | a :: r, v, hs, h => by
    have hr : Sorted r := (List.pairwise_cons.1 hs).2
    have ha := (List.pairwise_cons.1 hs).1
    simp only [insV]
    split
    · rfl
    · rename_i h1
      have hin : inN r v.name = true := by
        unfold inN at h ⊢
        simp only [List.any_cons, Bool.or_eq_true, decide_eq_true_eq] at h
        rcases h with h | h
        · exact absurd h h1
        · exact h
      obtain ⟨u, hu, hue⟩ := List.any_eq_true.1 hin
      have hlt := ha u hu
      simp only [decide_eq_true_eq] at hue
      rw [hue] at hlt
      rw [if_neg (by rw [slt_asym hlt]; simp), insV_in hr hin]
theorem insV_at : ∀ {s : List V2} {v : V2} {m : Nat}, m ≤ s.length → (∀ i u, i < m → s[i]? = some u → slt u.name v.name = true) → (∀ i u, m ≤ i → s[i]? = some u → slt u.name v.name = false) → inN s v.name = false → insV s v = s.take m ++ v :: s.drop m
  | [], v, m, _, _, _, _ => by simp [insV]
  | a :: r, v, 0, _, _, h2, h3 => by
    have hne : ¬ a.name = v.name := by
      intro h; simp [inN, h] at h3
    have := h2 0 a (Nat.le_refl _) rfl
    have hlt : slt v.name a.name = true := by
      rcases slt_tri a.name v.name with h | h | h
      · rw [h] at this; cases this
      · exact absurd h hne
      · exact h
    simp [insV, hne, hlt]
  | a :: r, v, m + 1, h0, h1, h2, h3 => by
    have hlt := h1 0 a (by omega) rfl
    have hne := slt_ne hlt
    have ih := insV_at (s := r) (v := v) (m := m) (by simpa using h0) (fun i u hi hu => h1 (i + 1) u (by omega) (by simpa using hu)) (fun i u hi hu => h2 (i + 1) u (by omega) (by simpa using hu)) (by
      unfold inN at h3 ⊢
      simp only [List.any_cons, Bool.or_eq_false_iff] at h3
      exact h3.2)
    simp [insV, hne, slt_asym hlt, ih]
def addV (op : Int) (s : List V2) (u : Term) : List V2 := if u.op = op then insV s ⟨u.name, u.w⟩ else s
theorem addV_sorted {op : Int} {s : List V2} {u : Term} (h : Sorted s) : Sorted (addV op s u) := by unfold addV; split; exact insV_sorted h; exact h
theorem addV_len {op : Int} {s : List V2} {u : Term} : (addV op s u).length ≤ s.length + 1 := by unfold addV; split; exact insV_len _ _; omega
theorem addAll_sorted {op : Int} : ∀ {l : List Term} {s : List V2}, Sorted s → Sorted (l.foldl (addV op) s)
  | [], s, h => h
  | a :: l, s, h => addAll_sorted (l := l) (s := addV op s a) (addV_sorted h)
theorem addAll_len {op : Int} : ∀ {l : List Term} {s : List V2}, (l.foldl (addV op) s).length ≤ s.length + l.length
  | [], s => by simp
  | a :: l, s => by
    have := addAll_len (op := op) (l := l) (s := addV op s a)
    have := addV_len (op := op) (s := s) (u := a)
    simp only [List.foldl_cons, List.length_cons]; omega
theorem foldE_foldl {S T α : Type} (g : S → α → S) : ∀ (l : List α) (i : Nat) (s : S), foldE (T := T) (fun _ s a => .inl (g s a)) i s l = .inl (l.foldl g s)
  | [], i, s => rfl
  | a :: l, i, s => by simp only [foldE, List.foldl_cons]; exact foldE_foldl g l (i + 1) (g s a)
theorem ins_go {n m e : Nat} {rows : List (List PV)} {new : List PV} {o1 o2 : Obj} (hn : rows.length = n) (hm : m ≤ n) (hl : n ≤ 1000000) (he : e = 2 ∨ e = 0 ∧ rows.isEmpty = true) :
    primIns 2 24 [.sl 0 n, .p (.int .i64 m), .sl 3 1] [.pv e rows false, o1, o2, .pv 2 [new] false] = some (.sl 0 (n + 1), [.pv 2 (rows.take m ++ [new] ++ rows.drop m) false, o1, o2, .pv 2 [new] false]) := by
  simp only [primIns, List.getElem?_cons_zero, List.getElem?_cons_succ, List.length_cons, List.length_nil, hn, Int.toNat_natCast, List.set_cons_zero]
  rw [if_pos ⟨trivial, trivial, by omega, he, trivial, by omega, by omega, hm, by omega⟩]
abbrev sV (s : List V2) : Store := [.pv (esOf 2 s) (s.map vrow) false, .av 1 [[.sl 0 s.length]] false]
abbrev e_vars (op : Int) (l : List Term) (i : Int) : List (Nat × AV) := [(2, .p (.ptr [.int .i64 op] 0)), (5, .ptr 1 1 0 0), (11, .p (.lst (l.map Term.row))), (12, .p (.int .i64 l.length)), (13, .p (.int .i64 i))]
def addT (op : Int) (s : List V2) (t : Term) : List V2 := t.pre.foldl (addV op) s
def varsOf (op : Int) (l : List Term) : List V2 := l.foldl (addT op) []
theorem addTs_len {op : Int} : ∀ {l : List Term} {s : List V2}, (l.foldl (addT op) s).length ≤ s.length + Term.counts l
  | [], s => by simp [Term.counts]
  | a :: l, s => by
    have := addTs_len (op := op) (l := l) (s := addT op s a)
    have := addAll_len (op := op) (l := a.pre) (s := s)
    rw [Term.pre_len] at this
    simp only [List.foldl_cons, Term.counts]
    unfold addT at *
    omega
end Go.AE.S
/- The examples of the document. --M-- -/
namespace Go.AE.S
open Go Go.AE
set_option linter.unusedSimpArgs false
set_option linter.unusedVariables false
variable {τ : Tm} {σ : Store} {rd : Option Nat}

def tP : Term := .mk 8 0 0 (bs []) [.mk 24 0 0 (bs [97]) [], .mk 2 0 1 (bs []) []]
def tQ : Term := .mk 8 4 0 (bs []) [.mk 24 4 0 (bs [97]) [], .mk 2 4 1 (bs []) []]
def tX : Term := .mk 26 4 0 (bs []) [.mk 24 4 0 (bs [97]) []]
def tL : Term := .mk 8 4 0 (bs []) [.mk 24 4 0 (bs [98]) [], .mk 24 4 0 (bs [97]) []]
theorem at_P : tP.atX 4 = (tQ, true) := by rfl
theorem slt_ba : slt (bs [97]) (bs [98]) = true := by
  unfold slt
  rw [ByteArray.toList_eq, ByteArray.toList_eq]
  decide
theorem vars_L : varsOf 24 [tL] = [⟨bs [97], 4⟩, ⟨bs [98], 4⟩] := by
  have hne : ¬ bs [98] = bs [97] := fun h => slt_ne slt_ba h.symm
  simp [varsOf, addT, tL, Term.pre, Term.pres, addV, insV, Term.op, Term.name, Term.w, hne, slt_ba]
theorem tok_leaf {o w v : Int} {s : ByteArray} (h1 : -9223372036854775808 ≤ o ∧ o ≤ 9223372036854775807) (h2 : -9223372036854775808 ≤ w ∧ w ≤ 9223372036854775807) (h3 : U64 v) (h4 : s.size ≤ 9223372036854775807) : TOk (.mk o w v s []) :=
  .mk _ h1 h2 h3 h4 (by simp [Term.args]) (by simp [Term.args])
theorem tok_P : TOk tP := .mk _ (by decide) (by decide) ⟨by decide, by decide⟩ (by decide) (by decide) (by
  intro a ha
  simp only [tP, Term.args, List.mem_cons, List.not_mem_nil, or_false] at ha
  rcases ha with rfl | rfl
  · exact tok_leaf (by decide) (by decide) ⟨by decide, by decide⟩ (by decide)
  · exact tok_leaf (by decide) (by decide) ⟨by decide, by decide⟩ (by decide))
theorem tok_X : TOk tX := .mk _ (by decide) (by decide) ⟨by decide, by decide⟩ (by decide) (by decide) (by
  intro a ha
  simp only [tX, Term.args, List.mem_cons, List.not_mem_nil, or_false] at ha
  subst ha
  exact tok_leaf (by decide) (by decide) ⟨by decide, by decide⟩ (by decide))
theorem check_X1 : checkE tX true = 12 := by decide +kernel
theorem check_X2 : checkE tX false = 4 := by decide +kernel
end Go.AE.S
/- The laws of checks and of widths. --M-- -/
namespace Go.AE.S
open Go Go.AE
set_option linter.unusedSimpArgs false
set_option linter.unusedVariables false
variable {τ : Tm} {σ : Store} {rd : Option Nat}

theorem arity_bound (o : Int) : arity o ≤ 3 := by
  by_cases h : 1 ≤ o ∧ o ≤ 26
  · exact (arity_some h).2
  · rw [arity_none h]; omega
theorem width_in (o w v : Int) (as : List Int) (hw : -9223372036854775808 ≤ w ∧ w ≤ 9223372036854775807) : -9223372036854775808 ≤ (widthW o w v as).1 ∧ (widthW o w v as).1 ≤ 9223372036854775807 := by
  have hget : as.all okW = true → ∀ n : Nat, 0 ≤ as.getD n 0 ∧ as.getD n 0 ≤ 64 := by
    intro h n
    rw [List.getD_eq_getElem?_getD]
    cases hg : as[n]? with
    | none => simp
    | some a =>
      have := List.all_eq_true.1 h a (List.mem_of_getElem? hg)
      simpa [okW] using this
  unfold widthW
  split
  · simp
  · split
    · simp
    · rename_i h
      have ha : as.all okW = true := by simpa using h
      have g0 := hget ha 0
      have g1 := hget ha 1
      split
      · unfold leafW; split
        · simp
        · exact hw
      · split
        · unfold sizeW; split
          · simp
          · exact hw
        · split
          · exact ⟨by omega, by omega⟩
          · split
            · split
              · exact ⟨by simp only; omega, by simp only; omega⟩
              · simp
            · split
              · split
                · exact ⟨by simp only; omega, by simp only; omega⟩
                · simp
              · split
                · split
                  · simp
                  · exact ⟨by simp only; omega, by simp only; omega⟩
                · simp
theorem tok_zT : TOk zT := tok_leaf (by decide) (by decide) ⟨by decide, by decide⟩ (by decide)
theorem ats_all {wd : Int} : ∀ {l m : List Term}, Term.atsX wd l = some m → m.length = l.length ∧ ∀ (i : Nat) (a b : Term), l[i]? = some a → m[i]? = some b → b = (a.atX wd).1 ∧ (a.atX wd).2 = true
  | [], m, h => by simp only [Term.atsX, Option.some.injEq] at h; subst h; simp
  | a :: l, m, h => by
    simp only [Term.atsX] at h
    split at h
    · rename_i hk
      obtain ⟨m', hm, rfl⟩ := Option.map_eq_some_iff.1 h
      obtain ⟨h1, h2⟩ := ats_all hm
      refine ⟨by simp [h1], fun i x y hx hy => ?_⟩
      cases i with
      | zero => simp at hx hy; subst hx; subst hy; exact ⟨rfl, hk⟩
      | succ i => exact h2 i x y (by simpa using hx) (by simpa using hy)
    · cases h
theorem tok_at (wd : Int) (hw : -9223372036854775808 ≤ wd ∧ wd ≤ 9223372036854775807) (t : Term) : TOk t → TOk (t.atX wd).1 := by
  induction t using Term.ind with
  | h t ih =>
  intro ht
  by_cases hz : t.args = []
  · rw [at_leaf wd t hz]
    refine tok_leaf ht.op ?_ ?_ ht.name
    · split; exact hw; exact ht.w
    · split
      · exact cut_u64 wd ht.v
      · exact ht.v
  · rw [at_node wd t hz]
    cases hm : Term.atsX wd t.args with
    | none => exact tok_zT
    | some m =>
      obtain ⟨h1, h2⟩ := ats_all hm
      refine .mk _ ht.op (width_in _ _ _ _ ht.w) ht.v ht.name (by show m.length ≤ _; rw [h1]; exact ht.len) (fun b hb => ?_)
      obtain ⟨i, hi⟩ := List.getElem?_of_mem hb
      have hil : i < t.args.length := by rw [← h1]; exact (List.getElem?_eq_some_iff.1 hi).1
      have hai : t.args[i]? = some t.args[i] := List.getElem?_eq_getElem hil
      rw [(h2 i _ b hai hi).1]
      exact ih _ (List.getElem_mem hil) (ht.args (List.getElem_mem hil))
theorem beq_self (t : Term) : t.beq t = true := (Term.beq_iff t t).2 rfl
end Go.AE.S
