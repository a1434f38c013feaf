/- A pattern at a width is valid, and not generic. --M-- -/
import Derived.Test.YtncolifaemncbaaB7
namespace Go.AE.S
open Go Go.AE
set_option linter.unusedSimpArgs false
set_option linter.unusedVariables false
variable {τ : Tm} {σ : Store} {rd : Option Nat}
theorem node_ok {u : Term} {ev : Bool} (h : nodeE u ev = 0) : (¬ (arity u.op < 0 ∨ u.op = 1 ∨ (u.op = 26 ∧ ev = false) ∨ ¬ (u.args.length : Int) = arity u.op)) ∧
    ¬ ((¬ u.name = bs [] ∧ ¬ (u.op = 24 ∨ u.op = 25)) ∨ (¬ u.v = 0 ∧ ¬ u.op = 2 ∧ ¬ u.op = 21)) ∧ ¬ ((u.op = 24 ∨ u.op = 25) ∧ nameOk u.name = false) ∧
    widthW u.op u.w u.v (u.args.map Term.w) = (u.w, 0) ∧ ¬ (u.op = 26 ∧ inner u = true) := by
  unfold nodeE at h
  split at h
  · cases h
  rename_i h1
  split at h
  · cases h
  rename_i h2
  split at h
  · cases h
  rename_i h3
  split at h
  · cases h
  rename_i h4
  split at h
  · cases h
  rename_i h5
  simp only [not_or, Classical.not_not] at h4
  exact ⟨h1, h2, h3, Prod.ext h4.2 h4.1, h5⟩
theorem ok_node {u : Term} {ev : Bool} (h1 : ¬ (arity u.op < 0 ∨ u.op = 1 ∨ (u.op = 26 ∧ ev = false) ∨ ¬ (u.args.length : Int) = arity u.op))
    (h2 : ¬ ((¬ u.name = bs [] ∧ ¬ (u.op = 24 ∨ u.op = 25)) ∨ (¬ u.v = 0 ∧ ¬ u.op = 2 ∧ ¬ u.op = 21))) (h3 : ¬ ((u.op = 24 ∨ u.op = 25) ∧ nameOk u.name = false))
    (h4 : widthW u.op u.w u.v (u.args.map Term.w) = (u.w, 0)) (h5 : ¬ (u.op = 26 ∧ inner u = true)) : nodeE u ev = 0 := by
  unfold nodeE
  rw [if_neg h1, if_neg h2, if_neg h3, if_neg (by rw [h4]; simp), if_neg h5]
theorem ats_none {wd : Int} : ∀ {l : List Term}, Term.atsX wd l = none → ∃ a ∈ l, (a.atX wd).2 = false
  | [], h => by simp [Term.atsX] at h
  | a :: l, h => by
    simp only [Term.atsX] at h
    split at h
    · have := ats_none (Option.map_eq_none_iff.1 h)
      obtain ⟨b, hb, h⟩ := this
      exact ⟨b, by simp [hb], h⟩
    · rename_i h1
      exact ⟨a, by simp, by simpa using h1⟩
/-- A pattern without generic nodes stays. -/
theorem at_same (wd : Int) (ev : Bool) (t : Term) : (∀ u ∈ t.pre, nodeE u ev = 0) → (∀ u ∈ t.pre, ¬ u.w = 0) → t.atX wd = (t, true) := by
  induction t using Term.ind with
  | h t ih =>
  intro hn hw
  have h0 := hw t self_pre
  by_cases hz : t.args = []
  · rw [at_leaf wd t hz, if_neg h0, if_neg (fun h => h0 h.1)]
    cases t; simp only [Term.args] at hz; subst hz; rfl
  · have ha : ∀ a ∈ t.args, a.atX wd = (a, true) := fun a ha => ih a ha (fun u hu => hn u (mem_pre.2 (.inr ⟨a, ha, hu⟩))) (fun u hu => hw u (mem_pre.2 (.inr ⟨a, ha, hu⟩)))
    have hs : ∀ l : List Term, (∀ a ∈ l, a.atX wd = (a, true)) → Term.atsX wd l = some l := by
      intro l
      induction l with
      | nil => intro _; rfl
      | cons a l ih2 =>
        intro h
        simp only [Term.atsX]
        rw [h a (by simp), ih2 fun b hb => h b (by simp [hb])]
        rfl
    rw [at_node wd t hz, hs t.args ha]
    simp only [(node_ok (hn t self_pre)).2.2.2.1]
    cases t; rfl
theorem widthW_again {o w v n : Int} {as : List Int} (h0 : ¬ as = []) (h : widthW o w v as = (n, 0)) (ha : ∀ a ∈ as, 1 ≤ a) : widthW o n v as = (n, 0) ∧ 1 ≤ n := by
  have hget : ∀ k : Nat, k < as.length → 1 ≤ as.getD k 0 := by
    intro k hk
    rw [List.getD_eq_getElem?_getD, List.getElem?_eq_getElem hk]
    exact ha _ (List.getElem_mem hk)
  have hl0 : as.length ≠ 0 := by cases as with | nil => exact absurd rfl h0 | cons => simp
  unfold widthW at h ⊢
  split at h
  · cases h
  rename_i h1
  rw [if_neg h1]
  split at h
  · cases h
  rename_i h2
  rw [if_neg h2]
  split at h
  · omega
  rename_i h3
  rw [if_neg h3]
  simp only [not_or, Classical.not_not] at h1
  split at h
  · rename_i h4
    rw [if_pos h4]
    unfold sizeW at h ⊢
    split at h
    · cases h
    · rename_i h5
      cases h
      rw [if_neg h5]
      exact ⟨rfl, by omega⟩
  rename_i h4
  rw [if_neg h4]
  split at h
  · rename_i h5
    rw [if_pos h5]
    cases h
    exact ⟨rfl, hget 0 (by omega)⟩
  rename_i h5
  rw [if_neg h5]
  have a2 : ∀ {o : Int}, ¬ arity o < 0 → ¬ arity o = 0 → ¬ arity o = 1 → 2 ≤ arity o := by intro o; omega
  have hl2 := a2 h1.1 h3 h5
  split at h
  · rename_i h6
    rw [if_pos h6]
    split at h
    · rename_i h7
      rw [if_pos h7]
      cases h
      exact ⟨rfl, by omega⟩
    · cases h
  rename_i h6
  rw [if_neg h6]
  split at h
  · rename_i h7
    rw [if_pos h7]
    split at h
    · rename_i h8
      rw [if_pos h8]
      cases h
      exact ⟨rfl, hget 1 (by omega)⟩
    · cases h
  rename_i h7
  rw [if_neg h7]
  split at h
  · rename_i h8
    rw [if_pos h8]
    split at h
    · rename_i h9
      rw [if_pos h9]
      cases h
      exact ⟨rfl, by omega⟩
    · rename_i h9
      rw [if_neg h9]
      cases h
      exact ⟨rfl, hget 0 (by omega)⟩
  · cases h
/-- Nodes of a pattern and of the pattern at a width. -/
def RelT (wd : Int) (a b : Term) : Prop := b.op = a.op ∧ b.name = a.name ∧ (isVar a = true → b.w = if a.w = 0 then wd else a.w)
def RelL (wd : Int) : List Term → List Term → Prop
  | [], [] => True
  | a :: l, b :: m => RelT wd a b ∧ RelL wd l m
  | _, _ => False
theorem RelL.append {wd : Int} : ∀ {l m l' m' : List Term}, RelL wd l m → RelL wd l' m' → RelL wd (l ++ l') (m ++ m')
  | [], [], _, _, _, h => h
  | a :: l, b :: m, _, _, h, h' => ⟨h.1, RelL.append h.2 h'⟩
theorem RelL.len {wd : Int} : ∀ {l m : List Term}, RelL wd l m → m.length = l.length
  | [], [], _ => rfl
  | a :: l, b :: m, h => by simp [RelL.len h.2]
theorem RelL.any {wd : Int} (q : Int → Bool) : ∀ {l m : List Term}, RelL wd l m → (m.any fun u => q u.op) = l.any fun u => q u.op
  | [], [], _ => rfl
  | a :: l, b :: m, h => by simp only [List.any_cons]; rw [RelL.any q h.2, h.1.1]
/-- What is to be shown of the pattern at a width. -/
structure AtOk (wd : Int) (ev : Bool) (t q : Term) : Prop where
  nodes : ∀ u ∈ q.pre, nodeE u ev = 0 ∧ 1 ≤ u.w
  rel : RelL wd t.pre q.pre
  deep : q.deep = t.deep
theorem ats_ok {wd : Int} {ev : Bool} : ∀ {l m : List Term}, Term.atsX wd l = some m → (∀ a ∈ l, (a.atX wd).2 = true → AtOk wd ev a (a.atX wd).1) →
    (∀ b ∈ m, ∀ u ∈ b.pre, nodeE u ev = 0 ∧ 1 ≤ u.w) ∧ RelL wd (l.flatMap Term.pre) (m.flatMap Term.pre) ∧ Term.deeps m = Term.deeps l ∧ m.length = l.length ∧
    (∀ a, l.head? = some a → ∃ b, m.head? = some b ∧ RelL wd a.pre b.pre)
  | [], m, h, _ => by simp only [Term.atsX, Option.some.injEq] at h; subst h; simp [RelL]
  | a :: l, m, h, hall => by
    simp only [Term.atsX] at h
    split at h
    · rename_i hk
      obtain ⟨m', hm, rfl⟩ := Option.map_eq_some_iff.1 h
      obtain ⟨i1, i2, i3, i4, i5⟩ := ats_ok hm fun b hb => hall b (by simp [hb])
      have ha := hall a (by simp) hk
      refine ⟨?_, ?_, ?_, by simp [i4], ?_⟩
      · intro b hb
        rcases List.mem_cons.1 hb with rfl | hb
        · exact ha.nodes
        · exact i1 b hb
      · simp only [List.flatMap_cons]; exact ha.rel.append i2
      · simp only [Term.deeps]; rw [ha.deep, i3]
      · intro c hc
        simp only [List.head?_cons, Option.some.injEq] at hc
        subst hc
        exact ⟨_, rfl, ha.rel⟩
    · cases h
theorem leaf_cut {wd v : Int} (h1 : 1 ≤ wd) (h2 : wd ≤ 64) : cutW wd v < 2 ^ wd.toNat := by
  unfold cutW
  have hc : clampW wd = wd := by unfold clampW; omega
  rw [hc]
  have : v.toNat % 2 ^ wd.toNat < 2 ^ wd.toNat := Nat.mod_lt _ (Nat.pow_pos (by omega))
  exact_mod_cast this
theorem at_ok (wd : Int) (hwd : 1 ≤ wd ∧ wd ≤ 64) (ev : Bool) (t : Term) : (∀ u ∈ t.pre, nodeE u ev = 0) → (t.atX wd).2 = true → AtOk wd ev t (t.atX wd).1 := by
  induction t using Term.ind with
  | h t ih =>
  intro hn hk
  obtain ⟨g1, g2, g3, g4, g5⟩ := node_ok (hn t self_pre)
  by_cases hz : t.args = []
  · rw [at_leaf wd t hz]
    have har : arity t.op = 0 := by
      simp only [not_or, Classical.not_not] at g1
      rw [← g1.2.2.2, hz]; rfl
    have hl : leafW t.op t.w t.v = (t.w, 0) := by
      rw [← g4, hz]
      unfold widthW
      rw [if_neg (by rw [har]; simp), if_neg (by simp), if_pos har]
    have hlw : 0 ≤ t.w ∧ t.w ≤ 64 ∧ (t.op = 2 → 0 < t.w → t.v < 2 ^ t.w.toNat) := by
      unfold leafW at hl
      split at hl
      · exact absurd (show (3 : Int) = 0 from congrArg Prod.snd hl) (by decide)
      · rename_i h
        refine ⟨by omega, by omega, fun h1 h2 => ?_⟩
        exact Int.not_le.1 fun h3 => h (.inr ⟨h1, h2, h3⟩)
    have hpre : Term.pre (.mk t.op (if t.w = 0 then wd else t.w) (if t.w = 0 ∧ t.op = 2 then cutW wd t.v else t.v) t.name []) = [.mk t.op (if t.w = 0 then wd else t.w) (if t.w = 0 ∧ t.op = 2 then cutW wd t.v else t.v) t.name []] := by
      rw [Term.pre_eq]; rfl
    refine ⟨?_, ?_, ?_⟩
    · rw [hpre]
      intro u hu
      rw [List.mem_singleton] at hu
      subst hu
      refine ⟨ok_node ?_ ?_ g3 ?_ ?_, ?_⟩
      · show ¬ (arity t.op < 0 ∨ t.op = 1 ∨ (t.op = 26 ∧ ev = false) ∨ ¬ (([] : List Term).length : Int) = arity t.op)
        rw [← hz]; exact g1
      · show ¬ ((¬ t.name = bs [] ∧ ¬ (t.op = 24 ∨ t.op = 25)) ∨ (¬ (if t.w = 0 ∧ t.op = 2 then cutW wd t.v else t.v) = 0 ∧ ¬ t.op = 2 ∧ ¬ t.op = 21))
        by_cases h2 : t.op = 2
        · simp only [not_or] at g2 ⊢
          exact ⟨g2.1, fun h => h.2.1 h2⟩
        · rw [if_neg (fun h => h2 h.2)]; exact g2
      · show widthW t.op (if t.w = 0 then wd else t.w) (if t.w = 0 ∧ t.op = 2 then cutW wd t.v else t.v) [] = _
        unfold widthW
        rw [if_neg (by rw [har]; simp), if_neg (by simp), if_pos har]
        unfold leafW
        rw [if_neg]
        · rfl
        by_cases h0 : t.w = 0
        · rw [if_pos h0]
          rintro (h | ⟨h1, h2, h3⟩)
          · omega
          · rw [if_pos ⟨h0, h1⟩] at h3
            have := leaf_cut (v := t.v) hwd.1 hwd.2
            omega
        · rw [if_neg h0, if_neg (fun h => h0 h.1)]
          rintro (h | ⟨h1, h2, h3⟩)
          · omega
          · have := hlw.2.2 h1 h2
            omega
      · rintro ⟨_, h⟩
        exact absurd h (by simp [inner, Term.args])
      · show 1 ≤ (if t.w = 0 then wd else t.w)
        split <;> omega
    · rw [hpre, Term.pre_eq t, hz]
      exact ⟨⟨rfl, rfl, fun _ => rfl⟩, trivial⟩
    · rw [Term.deep_eq t, hz, Term.deep_eq]; rfl
  · rw [at_node wd t hz] at hk ⊢
    cases hm : Term.atsX wd t.args with
    | none => rw [hm] at hk; cases hk
    | some m =>
      rw [hm] at hk
      simp only [decide_eq_true_eq] at hk
      obtain ⟨i1, i2, i3, i4, i5⟩ := ats_ok (ev := ev) hm fun a ha hk => ih a ha (fun u hu => hn u (mem_pre.2 (.inr ⟨a, ha, hu⟩))) hk
      have hne : ¬ m.map Term.w = [] := by
        intro h
        have := congrArg List.length h
        rw [List.length_map, i4] at this
        exact hz (List.length_eq_zero_iff.1 this)
      have hpos : ∀ a ∈ m.map Term.w, 1 ≤ a := by
        intro x hx
        obtain ⟨b, hb, rfl⟩ := List.mem_map.1 hx
        exact (i1 b hb b self_pre).2
      obtain ⟨w1, w2⟩ := widthW_again hne (Prod.ext rfl hk : widthW t.op t.w t.v (m.map Term.w) = ((widthW t.op t.w t.v (m.map Term.w)).1, 0)) hpos
      refine ⟨?_, ?_, ?_⟩
      · intro u hu
        rcases mem_pre.1 hu with rfl | ⟨b, hb, hu⟩
        · refine ⟨ok_node ?_ g2 g3 w1 ?_, w2⟩
          · show ¬ (arity t.op < 0 ∨ t.op = 1 ∨ (t.op = 26 ∧ ev = false) ∨ ¬ (m.length : Int) = arity t.op)
            rw [i4]; exact g1
          · rintro ⟨h1, h2⟩
            refine g5 ⟨h1, ?_⟩
            unfold inner at h2 ⊢
            cases ha : t.args with
            | nil => exact absurd ha hz
            | cons a as =>
              rw [ha] at i5
              obtain ⟨b, hb, hr⟩ := i5 a rfl
              cases m with
              | nil => cases hb
              | cons c m =>
                simp only [List.head?_cons, Option.some.injEq] at hb
                subst hb
                have e := hr.any fun o => decide (o ∈ [24, (26 : Int)])
                show (a.pre.any fun u => decide (u.op ∈ [24, (26 : Int)])) = true
                rw [← e]
                exact h2
        · exact i1 b hb u hu
      · rw [Term.pre_eq t, Term.pre_eq]
        refine ⟨⟨rfl, rfl, fun h => ?_⟩, ?_⟩
        · exfalso
          unfold isVar at h
          have h := of_decide_eq_true h
          have har : arity t.op = 0 := by rcases h with h | h <;> rw [h] <;> decide
          simp only [not_or, Classical.not_not] at g1
          have := g1.2.2.2
          rw [har] at this
          exact hz (List.length_eq_zero_iff.1 (by omega))
        · rw [Term.pres_eq, Term.pres_eq]; exact i2
      · rw [Term.deep_eq t, Term.deep_eq, ← i3]; rfl
/-- The names bound, by both. -/
def RelS (wd : Int) : List (ByteArray × Term) → List (ByteArray × Term) → Prop
  | [], [] => True
  | a :: l, b :: m => a.1 = b.1 ∧ RelT wd a.2 b.2 ∧ isVar a.2 = true ∧ RelS wd l m
  | _, _ => False
theorem RelS.len {wd : Int} : ∀ {l m : List (ByteArray × Term)}, RelS wd l m → m.length = l.length
  | [], [], _ => rfl
  | a :: l, b :: m, h => by simp [RelS.len h.2.2.2]
theorem RelS.lk {wd : Int} (k : ByteArray) : ∀ {l m : List (ByteArray × Term)}, RelS wd l m → match lkB l k, lkB m k with
    | none, none => True
    | some a, some b => RelT wd a b ∧ isVar a = true
    | _, _ => False
  | [], [], _ => trivial
  | a :: l, b :: m, h => by
    simp only [lkB]
    rw [← h.1]
    by_cases hk : k = a.1
    · simp only [hk, if_true]; exact ⟨h.2.1, h.2.2.1⟩
    · simp only [hk, if_false]; exact RelS.lk k h.2.2.2
theorem RelS.st {wd : Int} {a b : Term} (hr : RelT wd a b) (hv : isVar a = true) : ∀ {l m : List (ByteArray × Term)}, RelS wd l m → RelS wd (stB a l) (stB b m)
  | [], [], _ => ⟨hr.2.1.symm, hr, hv, trivial⟩
  | c :: l, d :: m, h => by
    simp only [stB]
    rw [hr.2.1, ← h.1]
    by_cases hk : a.name = c.1
    · simp only [hk, if_true]; exact ⟨rfl, hr, hv, h.2.2.2⟩
    · simp only [hk, if_false]; exact ⟨h.1, h.2.1, h.2.2.1, RelS.st hr hv h.2.2.2⟩
theorem isVar_rel {wd : Int} {a b : Term} (h : RelT wd a b) : isVar b = isVar a := by unfold isVar; rw [h.1]
theorem RelL.bind {wd : Int} : ∀ {l m : List Term} (i : Nat) {s s' : List (ByteArray × Term)} {r : List (ByteArray × Term)}, RelL wd l m → RelS wd s s' →
    foldE (fun _ s u => bindF s u) i s l = .inl r → ∃ r', foldE (fun _ s u => bindF s u) i s' m = .inl r' ∧ r'.length = r.length
  | [], [], i, s, s', r, _, hs, h => by
    simp only [foldE, Sum.inl.injEq] at h ⊢
    subst h
    exact ⟨s', rfl, hs.len⟩
  | a :: l, b :: m, i, s, s', r, hl, hs, h => by
    simp only [foldE] at h ⊢
    unfold bindF at h ⊢
    rw [isVar_rel hl.1, hl.1.2.1]
    cases hv : isVar a with
    | false =>
      simp only [hv, Bool.false_eq_true, if_false] at h ⊢
      exact RelL.bind (i + 1) hl.2 hs h
    | true =>
      simp only [hv, if_true] at h ⊢
      have hk := hs.lk a.name
      cases h1 : lkB s a.name with
      | none =>
        cases h2 : lkB s' a.name with
        | some y => rw [h1, h2] at hk; exact hk.elim
        | none =>
          simp only [h1] at h
          simp only
          exact RelL.bind (i + 1) hl.2 (RelS.st hl.1 hv hs) h
      | some x =>
        cases h2 : lkB s' a.name with
        | none => rw [h1, h2] at hk; exact hk.elim
        | some y =>
          rw [h1, h2] at hk
          simp only [h1] at h
          simp only
          by_cases hc : x.op = a.op ∧ x.w = a.w
          · rw [if_pos hc] at h
            rw [if_pos ⟨by rw [hk.1.1, hl.1.1, hc.1], by rw [hk.1.2.2 hk.2, hl.1.2.2 hv, hc.2]⟩]
            exact RelL.bind (i + 1) hl.2 (RelS.st hl.1 hv hs) h
          · rw [if_neg hc] at h; cases h
theorem at_check {wd : Int} (hwd : 1 ≤ wd ∧ wd ≤ 64) {ev : Bool} {t : Term} (h : checkE t ev = 0) (hk : (t.atX wd).2 = true) : checkE (t.atX wd).1 ev = 0 ∧ ∀ u ∈ (t.atX wd).1.pre, ¬ u.w = 0 := by
  have ha := at_ok wd hwd ev t (check_nodes h) hk
  refine ⟨?_, fun u hu => by have := (ha.nodes u hu).2; omega⟩
  have hc : (t.atX wd).1.count = t.count := by rw [← Term.pre_len, ← Term.pre_len]; exact ha.rel.len
  unfold checkE at h ⊢
  rw [hc, ha.deep]
  split at h
  · cases h
  rename_i h1
  rw [if_neg h1]
  have hf : firstE ev (t.atX wd).1.post = 0 := (first_zero ev _).2 fun u hu => (ha.nodes u ((mem_post _ u).1 hu)).1
  rw [if_neg (by rw [hf]; simp)]
  split at h
  · rename_i h2; exact absurd h h2
  cases hb : foldE (fun _ s u => bindF s u) 0 [] t.pre with
  | inr r => rw [hb] at h; cases h
  | inl r =>
    rw [hb] at h
    obtain ⟨r', k1, k2⟩ := ha.rel.bind (s := []) (s' := []) 0 trivial hb
    rw [k1]
    simp only at h ⊢
    rw [k2]; exact h
theorem check_gen {p : Term} (h : (p.pre.any fun u => decide (u.w = 0)) = false) : ∀ u ∈ p.pre, ¬ u.w = 0 := by
  intro u hu
  have := (List.any_eq_false.1 h) u hu
  simpa using this
set_option maxHeartbeats 4000000 in
theorem p_PatternStays (p : Term) (hp : TOk p) (w : Int) (hw : -9223372036854775808 ≤ w ∧ w ≤ 9223372036854775807) (ev : Bool) : R P f_law24_PatternStays [.agg p.row, .int .i64 w, .bool ev] = some (.bool true) := by
  have hsp := s_r10_Small p hp 100 (by omega) (by omega)
  have hl := s_lives
  by_cases h1 : (p.count : Int) ≤ 100
  rotate_left
  · (rw [r_law24_PatternStays (Nat.le_of_ble_eq_true rfl), F_law24_PatternStays]; simp (disch := omega) only [eqs, eqL, ↓gc_len, seval, -List.reduceReplicate, reduceCtorEq, omap, depth, pcall, pureR, freezeFor, freezeAll, tupR, resV, purR, enterTm, number, gcOk, rangeEnd, mkTup, allP, eqM, q_r10_Small, hsp, h1, q_law24_lives, hl])
  have hc := s_pattern_Check p ev hp (by omega)
  rcases Classical.propComplete (checkE p ev = 0) with h2 | h2
  rotate_left
  · (rw [r_law24_PatternStays (Nat.le_of_ble_eq_true rfl), F_law24_PatternStays]; simp (disch := omega) only [eqs, eqL, ↓gc_len, seval, -List.reduceReplicate, reduceCtorEq, omap, depth, pcall, pureR, freezeFor, freezeAll, tupR, resV, purR, enterTm, number, gcOk, rangeEnd, mkTup, allP, eqM, q_r10_Small, hsp, h1, q_law24_lives, hl, q_pattern_Check, hc, h2])
  have hz : checkE p ev = 0 := of_eq_true h2
  have ha := s_pattern_At p w hw hp (by omega)
  by_cases g1 : w < 1
  · rw [if_neg (by omega)] at ha
    (rw [r_law24_PatternStays (Nat.le_of_ble_eq_true rfl), F_law24_PatternStays]; simp (disch := omega) only [eqs, eqL, ↓gc_len, seval, -List.reduceReplicate, reduceCtorEq, omap, depth, pcall, pureR, freezeFor, freezeAll, tupR, resV, purR, enterTm, number, gcOk, rangeEnd, mkTup, allP, eqM, q_r10_Small, hsp, h1, q_law24_lives, hl, q_pattern_Check, hc, h2, q_pattern_At, ha, g1])
  by_cases g2 : (64 : Int) < w
  · rw [if_neg (by omega)] at ha
    (rw [r_law24_PatternStays (Nat.le_of_ble_eq_true rfl), F_law24_PatternStays]; simp (disch := omega) only [eqs, eqL, ↓gc_len, seval, -List.reduceReplicate, reduceCtorEq, omap, depth, pcall, pureR, freezeFor, freezeAll, tupR, resV, purR, enterTm, number, gcOk, rangeEnd, mkTup, allP, eqM, q_r10_Small, hsp, h1, q_law24_lives, hl, q_pattern_Check, hc, h2, q_pattern_At, ha, g1, g2])
  rw [if_pos (by omega)] at ha
  have a5 := s_pattern_Generic p (by omega)
  cases h3 : (p.pre.any fun u => decide (u.w = 0)) with
  | false =>
    rw [h3] at a5
    rw [at_same w ev p (check_nodes hz) (check_gen h3)] at ha
    simp only [atE, if_true] at ha
    have hx := s_r10_Same p hp p hp
    rw [beq_self] at hx
    (rw [r_law24_PatternStays (Nat.le_of_ble_eq_true rfl), F_law24_PatternStays]; simp (disch := omega) only [eqs, eqL, ↓gc_len, seval, -List.reduceReplicate, reduceCtorEq, omap, depth, pcall, pureR, freezeFor, freezeAll, tupR, resV, purR, enterTm, number, gcOk, rangeEnd, mkTup, allP, eqM, q_r10_Small, hsp, h1, q_law24_lives, hl, q_pattern_Check, hc, h2, q_pattern_At, ha, g1, g2, q_pattern_Generic, a5, q_r10_Same, hx])
  | true =>
    rw [h3] at a5
    cases hk : (p.atX w).2 with
    | false =>
      simp only [atE, hk, Bool.false_eq_true, if_false] at ha
      (rw [r_law24_PatternStays (Nat.le_of_ble_eq_true rfl), F_law24_PatternStays]; simp (disch := omega) only [eqs, eqL, ↓gc_len, seval, -List.reduceReplicate, reduceCtorEq, omap, depth, pcall, pureR, freezeFor, freezeAll, tupR, resV, purR, enterTm, number, gcOk, rangeEnd, mkTup, allP, eqM, q_r10_Small, hsp, h1, q_law24_lives, hl, q_pattern_Check, hc, h2, q_pattern_At, ha, g1, g2, q_pattern_Generic, a5])
    | true =>
      simp only [atE, hk, if_true] at ha
      obtain ⟨k1, k2⟩ := at_check ⟨by omega, by omega⟩ hz hk
      have hcnt : (p.atX w).1.count = p.count := by rw [← Term.pre_len, ← Term.pre_len]; exact (at_ok w ⟨by omega, by omega⟩ ev p (check_nodes hz) hk).rel.len
      have a6 := s_pattern_Check (p.atX w).1 ev (tok_at w hw p hp) (by omega)
      have a7 := s_pattern_Generic (p.atX w).1 (by omega)
      have a8 : ((p.atX w).1.pre.any fun u => decide (u.w = 0)) = false := by
        rw [List.any_eq_false]
        intro u hu
        simpa using k2 u hu
      rw [a8] at a7
      rw [k1] at a6
      (rw [r_law24_PatternStays (Nat.le_of_ble_eq_true rfl), F_law24_PatternStays]; simp (disch := omega) only [eqs, eqL, ↓gc_len, seval, -List.reduceReplicate, reduceCtorEq, omap, depth, pcall, pureR, freezeFor, freezeAll, tupR, resV, purR, enterTm, number, gcOk, rangeEnd, mkTup, allP, eqM, q_r10_Small, hsp, h1, q_law24_lives, hl, q_pattern_Check, hc, h2, q_pattern_At, ha, g1, g2, q_pattern_Generic, a5, a6, a7])
end Go.AE.S
