/- A pattern's check, by the program. -/
import Derived.Test.YthljaicehpdkbaaB2
import Derived.Test.YthljaicehpdkbaaP0
namespace Go.AE.S
open Go Go.AE
set_option linter.unusedSimpArgs false
set_option linter.unusedVariables false
variable {τ : Tm} {σ : Store} {rd : Option Nat}

def firstE (ev : Bool) : List Term → Int
  | [] => 0
  | a :: r => if nodeE a ev = 0 then firstE ev r else nodeE a ev
theorem first_append (ev : Bool) : ∀ l m : List Term, firstE ev (l ++ m) = if firstE ev l = 0 then firstE ev m else firstE ev l
  | [], m => rfl
  | a :: l, m => by
    simp only [List.cons_append, firstE]
    by_cases h : nodeE a ev = 0
    · simp only [h, if_true]; exact first_append ev l m
    · simp only [h, if_false]
abbrev e_nodes (t : Term) (ev : Bool) (i : Int) : List (Nat × AV) := [(1, .p (.bool ev)), (2, .p (.ptr t.row 0)), (9, .p (.lst (t.args.map Term.row))), (10, .p (.int .i64 t.args.length)), (11, .p (.int .i64 i))]
theorem fold_nodes (ev : Bool) : ∀ (l : List Term) (i : Nat), doneP (fun _ => firstE ev (Term.posts l) = 0) (fun e => firstE ev (Term.posts l) = e ∧ e ≠ 0) (foldE (S := Unit) (T := Int) (fun _ _ a => if firstE ev a.post = 0 then .inl () else .inr (firstE ev a.post)) i () l)
  | [], i => rfl
  | a :: l, i => by
    simp only [foldE, Term.posts, first_append]
    by_cases h : firstE ev a.post = 0
    · simp only [h, if_true]; exact fold_nodes ev l (i + 1)
    · simp only [h, if_false]; exact ⟨rfl, h⟩
/-- The first node of each name. -/
def ent (e : ByteArray × Term) : PV × AV := (.str e.1, .p (.agg e.2.row))
def lkB : List (ByteArray × Term) → ByteArray → Option Term
  | [], _ => none
  | e :: r, k => if k = e.1 then some e.2 else lkB r k
def stB (u : Term) : List (ByteArray × Term) → List (ByteArray × Term)
  | [] => [(u.name, u)]
  | e :: r => if u.name = e.1 then (u.name, u) :: r else e :: stB u r
theorem eq_str (a b : ByteArray) : eqLeaf .str (.str a) (.str b) = some (decide (a = b)) := by
  simp only [eqLeaf]
  congr 1
  rw [Bool.eq_iff_iff]
  simp [bytes_ext]
theorem find_ent (k : ByteArray) : ∀ s : List (ByteArray × Term), findKey .str (.str k) (s.map ent) = some ((lkB s k).map fun u => .p (.agg u.row))
  | [] => rfl
  | e :: r => by
    simp only [List.map_cons, findKey, ent, eq_str, lkB]
    by_cases h : k = e.1
    · simp [h]
    · simp only [h, decide_false, if_false]
      exact find_ent k r
theorem set_ent (u : Term) : ∀ s : List (ByteArray × Term), setKey .str (.str u.name) (.p (.agg u.row)) (s.map ent) = some ((stB u s).map ent)
  | [] => rfl
  | e :: r => by
    simp only [List.map_cons, setKey, ent, eq_str, stB]
    by_cases h : u.name = e.1
    · simp [h, ent]
    · simp only [h, decide_false, if_false]
      rw [set_ent u r]; rfl
theorem below_ent (n : Nat) (s : List (ByteArray × Term)) : ((s.map ent).all fun e => AE.below n e.2) = true := by
  rw [List.all_eq_true]
  intro x hx
  obtain ⟨e, _, rfl⟩ := List.mem_map.1 hx
  exact below_p
def isVar (u : Term) : Bool := decide (u.op = 24 ∨ u.op = 25)
def bindF (s : List (ByteArray × Term)) (u : Term) : List (ByteArray × Term) ⊕ List (ByteArray × Term) :=
  if isVar u = true then
    match lkB s u.name with
    | some o => if o.op = u.op ∧ o.w = u.w then .inl (stB u s) else .inr s
    | none => .inl (stB u s)
  else .inl s
abbrev sC (c : Int) (s : List (ByteArray × Term)) : Store := [.pv 1 [[.int .i64 c]] false, .map (s.map ent) false, .av 1 [[.map 1]] false]
theorem v_lookup_m {a : Obj} {es : List (PV × AV)} {r : Store} {kl : Leaf} {k : PV} {z : AV} : lookupV (a :: .map es false :: r) kl z (.map 1) (.p k) true = if isLeaf kl k = true then (findKey kl k es).bind fun o : Option AV => some (mkTup [o.getD z, .p (.bool o.isSome)]) else none := rfl
theorem v_mupd_m {a : Obj} {es es' : List (PV × AV)} {r : Store} {kl : Leaf} {k : PV} {v : AV} (h : isLeaf kl k = true) (h' : setKey kl k v es = some es') : mupdV (a :: .map es false :: r) kl (.map 1) (.p k) v = some (.any, a :: .map es' false :: r) := by
  simp [mupdV, h, h']
theorem v_lenM_m {a : Obj} {es : List (PV × AV)} {r : Store} : lenMV (a :: .map es false :: r) (.map 1) = some (.p (.int .i64 es.length)) := rfl
def checkE (p : Term) (ev : Bool) : Int :=
  if 4096 < p.count ∨ 64 < p.deep then 7
  else if ¬ firstE ev p.post = 0 then firstE ev p.post
  else match foldE (fun _ s u => bindF s u) 0 [] p.pre with
    | .inl s => if 16 < s.length then 7 else 0
    | .inr _ => 12
end Go.AE.S
/- A pattern's check, by the reference. -/
namespace Go.AE.S
open Go Go.AE
set_option linter.unusedSimpArgs false
set_option linter.unusedVariables false
variable {τ : Tm} {σ : Store} {rd : Option Nat}

def srow (n : ByteArray) : List PV := [.str n]
def innerF (u : Term) (_ : Nat) (s : Bool) (a : Term) : Bool ⊕ Unit :=
  if isVar a = true ∧ a.name = u.name then (if ¬ a.w = u.w ∨ ¬ a.op = u.op then .inr () else .inl true) else .inl s
def outerF (l : List Term) (i : Nat) (s : List ByteArray) (u : Term) : List ByteArray ⊕ Unit :=
  if isVar u = true then
    match foldE (innerF u) 0 false (l.take i) with
    | .inr _ => .inr ()
    | .inl again => .inl (if again = true then s else s ++ [u.name])
  else .inl s
abbrev e_n1 (l : List Term) (n : Nat) (i : Int) (s : Bool) (k : Int) : List (Nat × AV) := [(4, .p (.lst (l.map Term.row))), (5, .sl 0 n), (6, .p (.int .i64 i)), (7, .p (.bool s)), (8, .p (.int .i64 k))]
def retN (r : Ex × St) : Prop := r.1 = .ret ∧ r.2.τ.get 2 = .nils ∧ r.2.τ.get 3 = .p (.bool false)
abbrev e_n0 (l : List Term) (s : List ByteArray) (i : Int) : List (Nat × AV) := [(4, .p (.lst (l.map Term.row))), (5, .sl 0 s.length), (6, .p (.int .i64 i))]
abbrev sS (s : List ByteArray) : Store := [.pv 1 (s.map srow) false]
end Go.AE.S
/- Check of the reference is Check of the program. -/
namespace Go.AE.S
open Go Go.AE
set_option linter.unusedSimpArgs false
set_option linter.unusedVariables false
variable {τ : Tm} {σ : Store} {rd : Option Nat}

def clash (u a : Term) : Bool := isVar a && decide (a.name = u.name) && (!decide (a.w = u.w) || !decide (a.op = u.op))
def twin (u a : Term) : Bool := isVar a && decide (a.name = u.name)
theorem fold_inner (u : Term) : ∀ (l : List Term) (i : Nat) (s : Bool), foldE (innerF u) i s l = if l.any (clash u) = true then .inr () else .inl (s || l.any (twin u))
  | [], i, s => by simp [foldE]
  | a :: l, i, s => by
    by_cases h1 : isVar a = true ∧ a.name = u.name
    · have ht : twin u a = true := by simp [twin, h1.1, h1.2]
      by_cases h2 : ¬ a.w = u.w ∨ ¬ a.op = u.op
      · have hc : clash u a = true := by
          simp only [clash, h1.1, h1.2, decide_true, Bool.and_self, Bool.true_and, Bool.or_eq_true, Bool.not_eq_true', decide_eq_false_iff_not]
          exact h2
        have e : innerF u i s a = .inr () := by rw [innerF, if_pos h1, if_pos h2]
        simp only [foldE, e, List.any_cons, hc, Bool.true_or, if_true]
      · have hc : clash u a = false := by
          rw [not_or, Decidable.not_not, Decidable.not_not] at h2
          simp [clash, h2.1, h2.2]
        have e : innerF u i s a = .inl true := by rw [innerF, if_pos h1, if_neg h2]
        simp only [foldE, e, List.any_cons, hc, ht, Bool.false_or, Bool.true_or, Bool.or_true]
        exact fold_inner u l (i + 1) true
    · have ht : twin u a = false := by
        rw [Bool.eq_false_iff]
        simpa [twin] using h1
      have hc : clash u a = false := by
        have := ht
        simp only [twin] at this
        simp [clash, this]
      have e : innerF u i s a = .inl s := by rw [innerF, if_neg h1]
      simp only [foldE, e, List.any_cons, hc, ht, Bool.false_or]
      exact fold_inner u l (i + 1) s
structure Inv (pre : List Term) (es : List (ByteArray × Term)) (out : List ByteArray) : Prop where
  names : es.map (·.1) = out
  ents : ∀ e ∈ es, isVar e.2 = true ∧ e.2.name = e.1 ∧ e.2 ∈ pre
  all : ∀ a ∈ pre, isVar a = true → ∃ o, lkB es a.name = some o ∧ o.op = a.op ∧ o.w = a.w
theorem lk_mem {es : List (ByteArray × Term)} {k : ByteArray} {o : Term} (h : lkB es k = some o) : (k, o) ∈ es := by
  induction es with
  | nil => cases h
  | cons e r ih =>
    simp only [lkB] at h
    split at h
    · rename_i hk
      cases h
      rw [hk]; simp
    · exact List.mem_cons_of_mem _ (ih h)
theorem st_none {es : List (ByteArray × Term)} {u : Term} (h : lkB es u.name = none) : stB u es = es ++ [(u.name, u)] := by
  induction es with
  | nil => rfl
  | cons e r ih =>
    simp only [lkB] at h
    split at h
    · cases h
    · rename_i hk
      simp only [stB, hk, if_false, ih h, List.cons_append]
theorem st_names {es : List (ByteArray × Term)} {u o : Term} (h : lkB es u.name = some o) : (stB u es).map (·.1) = es.map (·.1) := by
  induction es with
  | nil => cases h
  | cons e r ih =>
    simp only [lkB] at h
    simp only [stB]
    split at h
    · rename_i hk
      simp [hk]
    · rename_i hk
      simp only [hk, if_false, List.map_cons, ih h]
theorem st_mem {es : List (ByteArray × Term)} {u : Term} {e : ByteArray × Term} (h : e ∈ stB u es) : e = (u.name, u) ∨ e ∈ es := by
  induction es with
  | nil => simp [stB] at h; exact .inl h
  | cons x r ih =>
    simp only [stB] at h
    split at h
    · rcases List.mem_cons.1 h with h | h
      · exact .inl h
      · exact .inr (by simp [h])
    · rcases List.mem_cons.1 h with h | h
      · exact .inr (by simp [h])
      · rcases ih h with h | h
        · exact .inl h
        · exact .inr (by simp [h])
theorem lk_st {es : List (ByteArray × Term)} {u : Term} {k : ByteArray} : lkB (stB u es) k = if k = u.name then some u else lkB es k := by
  induction es with
  | nil => simp [stB, lkB]
  | cons e r ih =>
    simp only [stB]
    by_cases h : u.name = e.1
    · rw [if_pos h]
      simp only [lkB]
      by_cases hk : k = u.name
      · simp [hk]
      · simp [hk, show ¬ k = e.1 from fun x => hk (x.trans h.symm)]
    · rw [if_neg h]
      simp only [lkB, ih]
      by_cases hk : k = e.1
      · rw [if_pos hk, if_neg (fun x => h (x.symm.trans hk)), if_pos hk]
      · rw [if_neg hk, if_neg hk]
theorem bind_names (l : List Term) : ∀ (r pre : List Term) (es : List (ByteArray × Term)) (out : List ByteArray) (i : Nat), l = pre ++ r → Inv pre es out →
    match foldE (fun _ s u => bindF s u) i es r, foldE (outerF l) pre.length out r with
    | .inl s, .inl o => s.length = o.length
    | .inr _, .inr _ => True
    | _, _ => False
  | [], pre, es, out, i, _, hI => by
    simp only [foldE]
    rw [← hI.names, List.length_map]
  | u :: r, pre, es, out, i, hl, hI => by
    simp only [foldE]
    have htk : l.take pre.length = pre := by rw [hl]; simp
    have next : ∀ es' out', Inv (pre ++ [u]) es' out' → match foldE (fun _ s u => bindF s u) (i + 1) es' r, foldE (outerF l) (pre.length + 1) out' r with
        | .inl s, .inl o => s.length = o.length
        | .inr _, .inr _ => True
        | _, _ => False := by
      intro es' out' hI'
      have := bind_names l r (pre ++ [u]) es' out' (i + 1) (by rw [hl]; simp) hI'
      simpa using this
    cases hv : isVar u with
    | false =>
      have e1 : bindF es u = .inl es := by simp [bindF, hv]
      have e2 : outerF l pre.length out u = .inl out := by simp [outerF, hv]
      rw [e1, e2]
      refine next es out ⟨hI.names, fun e he => ?_, fun a ha hva => ?_⟩
      · obtain ⟨h1, h2, h3⟩ := hI.ents e he
        exact ⟨h1, h2, by simp [h3]⟩
      · rcases List.mem_append.1 ha with ha | ha
        · exact hI.all a ha hva
        · simp only [List.mem_singleton] at ha
          rw [ha, hv] at hva; cases hva
    | true =>
      have hin := fold_inner u pre 0 false
      have e2 : outerF l pre.length out u = match foldE (innerF u) 0 false pre with
          | .inr _ => .inr ()
          | .inl again => .inl (if again = true then out else out ++ [u.name]) := by
        (simp only [outerF, hv, if_true, htk]) <;> rfl
      have e1 : bindF es u = match lkB es u.name with
          | some o => if o.op = u.op ∧ o.w = u.w then .inl (stB u es) else .inr es
          | none => .inl (stB u es) := by (simp only [bindF, hv, if_true]) <;> rfl
      rw [e1, e2, hin]
      cases hk : lkB es u.name with
      | none =>
        have hno : ∀ a ∈ pre, twin u a = false := by
          intro a ha
          rw [Bool.eq_false_iff]
          intro ht
          simp only [twin, Bool.and_eq_true, decide_eq_true_eq] at ht
          obtain ⟨o, ho, _⟩ := hI.all a ha ht.1
          rw [ht.2, hk] at ho
          cases ho
        have h1 : pre.any (clash u) = false := by
          rw [List.any_eq_false]
          intro a ha
          have := hno a ha
          simp only [twin] at this
          simp [clash, this]
        have h2 : pre.any (twin u) = false := by
          rw [List.any_eq_false]
          intro a ha
          simp [hno a ha]
        simp only [h1, h2, Bool.false_eq_true, if_false, Bool.or_self]
        refine next _ _ ⟨?_, fun e he => ?_, fun a ha hva => ?_⟩
        · rw [st_none hk, List.map_append, hI.names]; rfl
        · rcases st_mem he with rfl | he
          · exact ⟨hv, rfl, by simp⟩
          · obtain ⟨h1, h2, h3⟩ := hI.ents e he
            exact ⟨h1, h2, by simp [h3]⟩
        · rw [lk_st]
          rcases List.mem_append.1 ha with ha | ha
          · by_cases hn : a.name = u.name
            · have := hno a ha
              simp [twin, hva, hn] at this
            · rw [if_neg hn]
              exact hI.all a ha hva
          · simp only [List.mem_singleton] at ha
            subst ha
            rw [if_pos rfl]
            exact ⟨_, rfl, rfl, rfl⟩
      | some o =>
        obtain ⟨o1, o2, o3⟩ := hI.ents _ (lk_mem hk)
        simp only at o1 o2 o3
        by_cases ho : o.op = u.op ∧ o.w = u.w
        · have h1 : pre.any (clash u) = false := by
            rw [List.any_eq_false]
            intro a ha hc
            simp only [clash, Bool.and_eq_true, decide_eq_true_eq, Bool.or_eq_true, Bool.not_eq_true', decide_eq_false_iff_not] at hc
            obtain ⟨o', h1, h2, h3⟩ := hI.all a ha hc.1.1
            rw [hc.1.2, hk] at h1
            cases h1
            rcases hc.2 with h | h
            · exact h (h3.symm.trans ho.2)
            · exact h (h2.symm.trans ho.1)
          have h2 : pre.any (twin u) = true := by
            rw [List.any_eq_true]
            exact ⟨o, o3, by simp [twin, o1, o2]⟩
          simp only [h1, h2, Bool.false_eq_true, if_false, Bool.or_true, if_true, ho, and_self]
          refine next _ _ ⟨?_, fun e he => ?_, fun a ha hva => ?_⟩
          · rw [st_names hk]; exact hI.names
          · rcases st_mem he with rfl | he
            · exact ⟨hv, rfl, by simp⟩
            · obtain ⟨h1, h2, h3⟩ := hI.ents e he
              exact ⟨h1, h2, by simp [h3]⟩
          · rw [lk_st]
            rcases List.mem_append.1 ha with ha | ha
            · by_cases hn : a.name = u.name
              · rw [if_pos hn]
                obtain ⟨o', k1, k2, k3⟩ := hI.all a ha hva
                rw [hn, hk] at k1
                cases k1
                exact ⟨_, rfl, ho.1.symm.trans k2, ho.2.symm.trans k3⟩
              · rw [if_neg hn]
                exact hI.all a ha hva
            · simp only [List.mem_singleton] at ha
              subst ha
              rw [if_pos rfl]
              exact ⟨_, rfl, rfl, rfl⟩
        · have h1 : pre.any (clash u) = true := by
            rw [List.any_eq_true]
            refine ⟨o, o3, ?_⟩
            simp only [clash, o1, o2, decide_true, Bool.and_self, Bool.true_and, Bool.or_eq_true, Bool.not_eq_true', decide_eq_false_iff_not]
            by_cases hw : o.w = u.w
            · exact .inr fun h => ho ⟨h, hw⟩
            · exact .inl hw
          simp only [h1, if_true, ho, if_false]
abbrev e_CheckR (t : Term) (ev : Bool) (i : Int) : List (Nat × AV) := [(1, .p (.bool ev)), (2, .p (.ptr t.row 0)), (5, .p (.lst (t.post.map Term.row))), (6, .p (.int .i64 i))]
theorem fold_first (ev : Bool) : ∀ (l : List Term) (i : Nat), doneP (fun _ => firstE ev l = 0) (fun e => firstE ev l = e ∧ e ≠ 0) (foldE (S := Unit) (T := Int) (fun _ _ a => if nodeE a ev = 0 then .inl () else .inr (nodeE a ev)) i () l)
  | [], i => rfl
  | a :: l, i => by
    simp only [foldE, firstE]
    by_cases h : nodeE a ev = 0
    · simp only [h, if_true]; exact fold_first ev l (i + 1)
    · simp only [h, if_false]; exact ⟨rfl, h⟩
theorem tok_post {t : Term} : TOk t → t.count ≤ 1000000 → ∀ a ∈ t.post, TOk a ∧ a.count ≤ 1000000 := by
  induction t using Term.ind with
  | h t ih =>
  intro ht hc a ha
  rw [Term.post_eq, Term.posts_eq] at ha
  rcases List.mem_append.1 ha with ha | ha
  · obtain ⟨b, hb, hab⟩ := List.mem_flatMap.1 ha
    have := Term.counts_mem hb
    have := Term.count_eq t
    exact ih b hb (ht.args hb) (by omega) a hab
  · simp only [List.mem_singleton] at ha
    subst ha
    exact ⟨ht, hc⟩
end Go.AE.S
/- A pattern at a width, by the program. --M-- -/
namespace Go.AE
namespace Term
mutual
/-- A pattern at a width, and whether the widths agree. -/
def atX (wd : Int) : Term → Term × Bool
  | .mk o w v s [] => (.mk o (if w = 0 then wd else w) (if w = 0 ∧ o = 2 then S.cutW wd v else v) s [], true)
  | .mk o w v s (a :: as) =>
    match atsX wd (a :: as) with
    | some l => (.mk o (S.widthW o w v (l.map Term.w)).1 v s l, decide ((S.widthW o w v (l.map Term.w)).2 = 0))
    | none => (.mk 0 0 0 (S.bs []) [], false)
def atsX (wd : Int) : List Term → Option (List Term)
  | [] => some []
  | a :: as =>
    let x := atX wd a
    if x.2 = true then (atsX wd as).map (x.1 :: ·) else none
end
end Term
namespace S
open Go Go.AE
set_option linter.unusedSimpArgs false
set_option linter.unusedVariables false
variable {τ : Tm} {σ : Store} {rd : Option Nat}

theorem at_leaf (wd : Int) (t : Term) (h : t.args = []) : t.atX wd = (.mk t.op (if t.w = 0 then wd else t.w) (if t.w = 0 ∧ t.op = 2 then cutW wd t.v else t.v) t.name [], true) := by
  cases t with | mk o w v s as => simp only [Term.args] at h; subst h; rw [Term.atX]; rfl
theorem at_node (wd : Int) (t : Term) (h : t.args ≠ []) : t.atX wd = match Term.atsX wd t.args with
    | some l => (.mk t.op (widthW t.op t.w t.v (l.map Term.w)).1 t.v t.name l, decide ((widthW t.op t.w t.v (l.map Term.w)).2 = 0))
    | none => (.mk 0 0 0 (bs []) [], false) := by
  cases t with
  | mk o w v s as =>
    simp only [Term.args] at h
    cases as with
    | nil => exact absurd rfl h
    | cons a as => simp only [Term.atX, Term.op, Term.w, Term.v, Term.name, Term.args]; cases Term.atsX wd (a :: as) <;> rfl
abbrev z5 (l : Nat) : List AV := [.p (.int .i64 0), .p (.int .i64 0), .p (.int .u64 0), .p (.str (bs [])), .sl l 0]
abbrev sA (t : Term) (s : List Term) : Store := [.pv 0 [] false, .av 5 [z5 0] false, .pv (esOf 5 s) (s.map Term.row) false, .av 5 [[.p (.int .i64 t.op), .p (.int .i64 t.w), .p (.int .u64 t.v), .p (.str t.name), .sl 2 s.length]] false]
abbrev e_at (t : Term) (wd i : Int) : List (Nat × AV) := [(1, .p (.int .i64 wd)), (2, .p (.ptr t.row 0)), (4, .ptr 1 1 0 0), (6, .ptr 3 1 0 0), (41, .p (.lst (t.args.map Term.row))), (42, .p (.int .i64 t.args.length)), (43, .p (.int .i64 i))]
def outA (t : Term) (s : List Term) (r : Ex × St) : Prop := r.1 = .ret ∧ r.2.τ.get 4 = .ptr 1 1 0 0 ∧ r.2.τ.get 5 = .p (.bool false) ∧
  r.2.σ = [.pv 0 [] false, .av 5 [z5 4] false, .pv (esOf 5 s) (s.map Term.row) false, .av 5 [[.p (.int .i64 t.op), .p (.int .i64 t.w), .p (.int .u64 t.v), .p (.str t.name), .sl 2 s.length]] false, .pv 0 [] false]
def atS (wd : Int) (_ : Nat) (s : List Term) (a : Term) : List Term ⊕ List Term := if (a.atX wd).2 = true then .inl (s ++ [(a.atX wd).1]) else .inr s
theorem fold_at (wd : Int) : ∀ (l : List Term) (i : Nat) (s : List Term), match Term.atsX wd l with
    | some m => foldE (atS wd) i s l = .inl (s ++ m) ∧ m.length = l.length
    | none => ∃ s', foldE (atS wd) i s l = .inr s'
  | [], i, s => by simp [Term.atsX, foldE]
  | a :: l, i, s => by
    simp only [Term.atsX, foldE, atS]
    by_cases h : (a.atX wd).2 = true
    · simp only [h, if_true]
      have ih := fold_at wd l (i + 1) (s ++ [(a.atX wd).1])
      cases hm : Term.atsX wd l with
      | some m =>
        rw [hm] at ih
        simp only [Option.map_some]
        refine ⟨?_, by simp [ih.2]⟩
        have := ih.1
        simpa [atS] using this
      | none =>
        rw [hm] at ih
        simp only [Option.map_none]
        exact ih
    · simp only [h, if_false]
      exact ⟨s, rfl⟩
theorem flat_ints {l : List Int} (h : l ≠ []) : PV.flat (.lst (l.map irow)) = false := by
  cases l with
  | nil => exact absurd rfl h
  | cons a l => simp [PV.flat]
end S
end Go.AE
/- A pattern at a width, by the reference; At. --M-- -/
namespace Go.AE.S
open Go Go.AE
set_option linter.unusedSimpArgs false
set_option linter.unusedVariables false
variable {τ : Tm} {σ : Store} {rd : Option Nat}

def zT : Term := .mk 0 0 0 (bs []) []
theorem zT_row : zT.row = [.int .i64 0, .int .i64 0, .int .u64 0, .str (bs []), .lst []] := by simp [zT, Term.row, Term.rows]
/-- The pattern and the error. -/
def atE (x : Term × Bool) : List PV := if x.2 = true then [.agg x.1.row, .int .i64 0] else [.agg zT.row, .int .i64 3]
abbrev sR (t : Term) (s : List Term) : Store := [.pv 0 [] false, .av 5 [z5 0] false, .av 5 [[.p (.int .i64 t.op), .p (.int .i64 t.w), .p (.int .u64 t.v), .p (.str t.name), .sl 3 s.length]] false, .pv (esOf 5 s) (s.map Term.row) false]
abbrev e_atR (t : Term) (wd i : Int) : List (Nat × AV) := [(1, .p (.int .i64 wd)), (2, .p (.ptr t.row 0)), (4, .ptr 1 1 0 0), (6, .ptr 2 1 0 0), (7, .p (.int .i64 i))]
def outR (t : Term) (s : List Term) (r : Ex × St) : Prop := r.1 = .ret ∧ r.2.τ.get 4 = .ptr 1 1 0 0 ∧ r.2.τ.get 5 = .p (.int .i64 3) ∧
  r.2.σ = [.pv 0 [] false, .av 5 [z5 4] false, .av 5 [[.p (.int .i64 t.op), .p (.int .i64 t.w), .p (.int .u64 t.v), .p (.str t.name), .sl 3 s.length]] false, .pv (esOf 5 s) (s.map Term.row) false, .pv 0 [] false]
end Go.AE.S
