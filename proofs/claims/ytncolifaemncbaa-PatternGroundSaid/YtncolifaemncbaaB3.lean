/- A pattern's check, by the program. -/
import Derived.Test.YtncolifaemncbaaB2
import Derived.Test.YtncolifaemncbaaP0
namespace Go.AE.S
open Go Go.AE
set_option linter.unusedSimpArgs false
set_option linter.unusedVariables false
variable {τ : Tm} {σ : Store} {rd : Option Nat}

def firstE (ev : Bool) : List Term → Int
  | [] => 0
  | a :: r => if nodeE a ev = 0 then firstE ev r else nodeE a ev
theorem first_append (ev : Bool) : ∀ l m : List Term, firstE ev (l ++ m) = if firstE ev l = 0 then firstE ev m else firstE ev l
  | [], m => rfl
  | a :: l, m => by
    simp only [List.cons_append, firstE]
    by_cases h : nodeE a ev = 0
    · simp only [h, if_true]; exact first_append ev l m
    · simp only [h, if_false]
abbrev e_nodes (t : Term) (ev : Bool) (i : Int) : List (Nat × AV) := [(1, .p (.bool ev)), (2, .p (.ptr t.row 0)), (9, .p (.lst (t.args.map Term.row))), (10, .p (.int .i64 t.args.length)), (11, .p (.int .i64 i))]
theorem fold_nodes (ev : Bool) : ∀ (l : List Term) (i : Nat), doneP (fun _ => firstE ev (Term.posts l) = 0) (fun e => firstE ev (Term.posts l) = e ∧ e ≠ 0) (foldE (S := Unit) (T := Int) (fun _ _ a => if firstE ev a.post = 0 then .inl () else .inr (firstE ev a.post)) i () l)
  | [], i => rfl
  | a :: l, i => by
    simp only [foldE, Term.posts, first_append]
    by_cases h : firstE ev a.post = 0
    · simp only [h, if_true]; exact fold_nodes ev l (i + 1)
    · simp only [h, if_false]; exact ⟨rfl, h⟩
theorem s_pattern_nodes (t : Term) (ev : Bool) : TOk t → t.count ≤ 1000000 → R P f_pattern_nodes [.agg t.row, .bool ev] = some (.int .i64 (firstE ev t.post)) := by
  induction t using Term.ind with
  | h t ih =>
  intro ht hc
  have hlen := Term.counts_len t.args
  have hct := Term.count_eq t
  have h := loop_foldE (P := P) (nt := 25) (rd := none) (lv := [1, 2, 9, 10, 11]) (b := B0_pattern_nodes) (x := 0) (as := t.args) (fun i (_ : Unit) => e_nodes t ev i) (fun _ => []) (fun _ _ a => if firstE ev a.post = 0 then .inl () else .inr (firstE ev a.post))
    (fun s => ⟨upd (tm (e_nodes t ev t.args.length)) 12 (.p (.bool false)), [], 25, none⟩) (fun e => ret1 4 (.int .i64 e) []) (fun _ _ => True)
    (fun i a s ha hi hs => by
      refine ⟨fun _ _ => trivial, ?_⟩
      have hm := List.mem_of_getElem? ha
      have hac := Term.counts_mem hm
      have hr := ih a hm (ht.args hm) (by omega)
      have hlt : ((i : Int) < t.args.length) = True := by simpa using hi
      by_cases hf : firstE ev a.post = 0
      · simp only [B0_pattern_nodes]
        simp (disch := omega) only [eqs, eqL, ↓gc_len, seval, -List.reduceReplicate, reduceCtorEq, omap, depth, pcall, pureR, freezeFor, freezeAll, tupR, resV, purR, enterTm, number, gcOk, rangeEnd, mkTup, allP, hlt, v_iadr (map_get (f := Term.row) ha) a.row_len, q_pattern_nodes, hr, eq_true hf]
      · simp only [B0_pattern_nodes]
        simp (disch := omega) only [eqs, eqL, ↓gc_len, seval, -List.reduceReplicate, reduceCtorEq, omap, depth, pcall, pureR, freezeFor, freezeAll, tupR, resV, purR, enterTm, number, gcOk, rangeEnd, mkTup, allP, hlt, v_iadr (map_get (f := Term.row) ha) a.row_len, q_pattern_nodes, hr, hf, ret1]) (fun s hs => by
      simp only [B0_pattern_nodes]
      simp (disch := omega) only [eqs, eqL, ↓gc_len, seval, -List.reduceReplicate, reduceCtorEq, omap, depth, pcall, pureR, freezeFor, freezeAll, tupR, resV, purR, enterTm, number, gcOk, rangeEnd, mkTup, allP, Int.lt_irrefl]) (fun i s => rfl) () trivial
  have hn := s_pattern_node t ev ht hc
  have hf := fold_nodes ev t.args 0
  rw [Term.post_eq, first_append]
  simp only [firstE]
  cases hfe : foldE (S := Unit) (T := Int) (fun _ _ a => if firstE ev a.post = 0 then .inl () else .inr (firstE ev a.post)) 0 () t.args with
  | inl s =>
    rw [hfe] at h hf
    have h' : loopAt P L0_pattern_nodes (e_nodes t ev 0) [] 25 none = _ := h
    have hf' : firstE ev (Term.posts t.args) = 0 := hf
    rw [hf']
    (rw [r_pattern_nodes (Nat.le_of_ble_eq_true rfl), F_pattern_nodes]; simp (disch := omega) only [eqs, eqL, ↓gc_len, seval, -List.reduceReplicate, reduceCtorEq, omap, depth, pcall, pureR, freezeFor, freezeAll, tupR, resV, purR, enterTm, number, gcOk, rangeEnd, mkTup, allP, List.length_map, k0_pattern_nodes, h', q_pattern_node, hn])
    by_cases h0 : nodeE t ev = 0 <;> simp [h0]
  | inr e =>
    rw [hfe] at h hf
    obtain ⟨⟨e', τ', σ', nt', rd'⟩, g1, g2, g3, g4⟩ := h
    simp only at g2 g3 g4
    subst g2; subst g4
    have h' : loopAt P L0_pattern_nodes (e_nodes t ev 0) [] 25 none = some (.ret, ⟨τ', [], nt', rd'⟩) := g1
    have hf' : firstE ev (Term.posts t.args) = e ∧ e ≠ 0 := hf
    rw [hf'.1, if_neg hf'.2]
    (rw [r_pattern_nodes (Nat.le_of_ble_eq_true rfl), F_pattern_nodes]; simp (disch := omega) only [eqs, eqL, ↓gc_len, seval, -List.reduceReplicate, reduceCtorEq, omap, depth, pcall, pureR, freezeFor, freezeAll, tupR, resV, purR, enterTm, number, gcOk, rangeEnd, mkTup, allP, List.length_map, k0_pattern_nodes, h', g3])
/-- The first node of each name. -/
def ent (e : ByteArray × Term) : PV × AV := (.str e.1, .p (.agg e.2.row))
def lkB : List (ByteArray × Term) → ByteArray → Option Term
  | [], _ => none
  | e :: r, k => if k = e.1 then some e.2 else lkB r k
def stB (u : Term) : List (ByteArray × Term) → List (ByteArray × Term)
  | [] => [(u.name, u)]
  | e :: r => if u.name = e.1 then (u.name, u) :: r else e :: stB u r
theorem eq_str (a b : ByteArray) : eqLeaf .str (.str a) (.str b) = some (decide (a = b)) := by
  simp only [eqLeaf]
  congr 1
  rw [Bool.eq_iff_iff]
  simp [bytes_ext]
theorem find_ent (k : ByteArray) : ∀ s : List (ByteArray × Term), findKey .str (.str k) (s.map ent) = some ((lkB s k).map fun u => .p (.agg u.row))
  | [] => rfl
  | e :: r => by
    simp only [List.map_cons, findKey, ent, eq_str, lkB]
    by_cases h : k = e.1
    · simp [h]
    · simp only [h, decide_false, if_false]
      exact find_ent k r
theorem set_ent (u : Term) : ∀ s : List (ByteArray × Term), setKey .str (.str u.name) (.p (.agg u.row)) (s.map ent) = some ((stB u s).map ent)
  | [] => rfl
  | e :: r => by
    simp only [List.map_cons, setKey, ent, eq_str, stB]
    by_cases h : u.name = e.1
    · simp [h, ent]
    · simp only [h, decide_false, if_false]
      rw [set_ent u r]; rfl
theorem below_ent (n : Nat) (s : List (ByteArray × Term)) : ((s.map ent).all fun e => AE.below n e.2) = true := by
  rw [List.all_eq_true]
  intro x hx
  obtain ⟨e, _, rfl⟩ := List.mem_map.1 hx
  exact below_p
def isVar (u : Term) : Bool := decide (u.op = 24 ∨ u.op = 25)
def bindF (s : List (ByteArray × Term)) (u : Term) : List (ByteArray × Term) ⊕ List (ByteArray × Term) :=
  if isVar u = true then
    match lkB s u.name with
    | some o => if o.op = u.op ∧ o.w = u.w then .inl (stB u s) else .inr s
    | none => .inl (stB u s)
  else .inl s
abbrev sC (c : Int) (s : List (ByteArray × Term)) : Store := [.pv 1 [[.int .i64 c]] false, .map (s.map ent) false, .av 1 [[.map 1]] false]
theorem v_lookup_m {a : Obj} {es : List (PV × AV)} {r : Store} {kl : Leaf} {k : PV} {z : AV} : lookupV (a :: .map es false :: r) kl z (.map 1) (.p k) true = if isLeaf kl k = true then (findKey kl k es).bind fun o : Option AV => some (mkTup [o.getD z, .p (.bool o.isSome)]) else none := rfl
theorem v_mupd_m {a : Obj} {es es' : List (PV × AV)} {r : Store} {kl : Leaf} {k : PV} {v : AV} (h : isLeaf kl k = true) (h' : setKey kl k v es = some es') : mupdV (a :: .map es false :: r) kl (.map 1) (.p k) v = some (.any, a :: .map es' false :: r) := by
  simp [mupdV, h, h']
theorem v_lenM_m {a : Obj} {es : List (PV × AV)} {r : Store} : lenMV (a :: .map es false :: r) (.map 1) = some (.p (.int .i64 es.length)) := rfl
theorem r_Check (t : Term) (hc : t.count ≤ 1000000) : rangeR P [27] A0_pattern_Check B0_pattern_Check (.p (.fn f_pattern_preorder_1 [.ptr t.row 0])) [(4, .ptr 0 1 0 0), (6, .ptr 2 1 0 0)] (sC 0 []) 61 none = some (rangeEnd (sC 0) (fun s => (.ret, sC 12 s)) (foldE (fun _ s u => bindF s u) 0 [] t.pre)) := by
  refine range_pre (rd := none) (kept := [(4, .ptr 0 1 0 0), (6, .ptr 2 1 0 0)]) (ps := [27]) (asg := A0_pattern_Check) (b := B0_pattern_Check) (nt := 61) t hc ⟨rfl, rfl⟩ (sC 0) (fun _ s u => bindF s u) (fun s => (.ret, sC 12 s))
    (fun _ _ => True) [] rfl (fun _ => rfl) (fun _ => rfl) (fun s => by simp only [sC, List.all_cons, List.all_nil, obj_below, obj_belowM, obj_belowA, below_ent, below_map]; rfl) (fun s => by simp only [sC, List.all_cons, List.all_nil, obj_below, obj_belowM, obj_belowA, below_ent, below_map]; rfl) (fun _ => by simp) (fun i u s ha _ => ?_) trivial
  refine ⟨fun _ _ => trivial, ?_⟩
  simp only [sC, List.cons_append, List.nil_append]
  rw [round_go rfl ⟨rfl, rfl, rfl⟩]
  have hpv := s_pattern_variable u.op
  unfold bindF isVar
  by_cases hv : u.op = 24 ∨ u.op = 25
  rotate_left
  · simp only [A0_pattern_Check, B0_pattern_Check]
    simp (disch := omega) only [eqs, eqL, ↓gc_len, seval, -List.reduceReplicate, reduceCtorEq, omap, depth, pcall, pureR, freezeFor, freezeAll, tupR, resV, purR, enterTm, number, gcOk, rangeEnd, mkTup, allP, q_pattern_variable, hpv, hv, below_ent]
  · have hfk := find_ent u.name s
    have hsk := set_ent u s
    simp only [hv]
    cases hl : lkB s u.name with
    | none =>
      rw [hl] at hfk
      have hlk := fun r => look_none (r := r) (a := .pv 1 [[.int .i64 0]] false) (z := .agg [.p (.int .i64 0), .p (.int .i64 0), .p (.int .u64 0), .p (.str (bs [])), .nils]) (kl := .str) (k := .str u.name) rfl hfk
      simp only [A0_pattern_Check, B0_pattern_Check]
      simp (disch := omega) only [eqs, eqL, ↓gc_len, seval, -List.reduceReplicate, reduceCtorEq, omap, depth, pcall, pureR, freezeFor, freezeAll, tupR, resV, purR, enterTm, number, gcOk, rangeEnd, mkTup, allP, q_pattern_variable, hpv, hv, below_ent, hlk, v_mupd_m rfl hsk]
    | some o =>
      rw [hl] at hfk
      have hlk := fun r => look_some (r := r) (a := .pv 1 [[.int .i64 0]] false) (z := .agg [.p (.int .i64 0), .p (.int .i64 0), .p (.int .u64 0), .p (.str (bs [])), .nils]) (kl := .str) (k := .str u.name) rfl hfk
      simp only [A0_pattern_Check, B0_pattern_Check]
      rcases Classical.propComplete (o.op = u.op) with h1 | h1 <;> rcases Classical.propComplete (o.w = u.w) with h2 | h2 <;> simp (disch := omega) only [eqs, eqL, ↓gc_len, seval, -List.reduceReplicate, reduceCtorEq, omap, depth, pcall, pureR, freezeFor, freezeAll, tupR, resV, purR, enterTm, number, gcOk, rangeEnd, mkTup, allP, q_pattern_variable, hpv, hv, below_ent, hlk, h1, h2, v_mupd_m rfl hsk]
def checkE (p : Term) (ev : Bool) : Int :=
  if 4096 < p.count ∨ 64 < p.deep then 7
  else if ¬ firstE ev p.post = 0 then firstE ev p.post
  else match foldE (fun _ s u => bindF s u) 0 [] p.pre with
    | .inl s => if 16 < s.length then 7 else 0
    | .inr _ => 12
theorem s_pattern_Check (p : Term) (ev : Bool) (ht : TOk p) (hc : p.count ≤ 1000000) : R P f_pattern_Check [.agg p.row, .bool ev] = some (.int .i64 (checkE p ev)) := by
  have h1 := s_term_Size p hc
  have h2 := s_term_Depth p hc
  have h3 := s_pattern_nodes p ev ht hc
  have h4 := r_Check p hc
  unfold checkE
  by_cases g1 : (4096 : Int) < p.count
  · rw [if_pos (by omega)]
    (rw [r_pattern_Check (Nat.le_of_ble_eq_true rfl), F_pattern_Check]; simp (disch := omega) only [eqs, eqL, ↓gc_len, seval, -List.reduceReplicate, reduceCtorEq, omap, depth, pcall, pureR, freezeFor, freezeAll, tupR, resV, purR, enterTm, number, gcOk, rangeEnd, mkTup, allP, q_term_Size, h1, g1])
  by_cases g2 : (64 : Int) < p.deep
  · rw [if_pos (by omega)]
    (rw [r_pattern_Check (Nat.le_of_ble_eq_true rfl), F_pattern_Check]; simp (disch := omega) only [eqs, eqL, ↓gc_len, seval, -List.reduceReplicate, reduceCtorEq, omap, depth, pcall, pureR, freezeFor, freezeAll, tupR, resV, purR, enterTm, number, gcOk, rangeEnd, mkTup, allP, q_term_Size, h1, g1, q_term_Depth, h2, g2])
  rw [if_neg (by omega)]
  by_cases g3 : firstE ev p.post = 0
  rotate_left
  · rw [if_pos g3]
    (rw [r_pattern_Check (Nat.le_of_ble_eq_true rfl), F_pattern_Check]; simp (disch := omega) only [eqs, eqL, ↓gc_len, seval, -List.reduceReplicate, reduceCtorEq, omap, depth, pcall, pureR, freezeFor, freezeAll, tupR, resV, purR, enterTm, number, gcOk, rangeEnd, mkTup, allP, q_term_Size, h1, g1, q_term_Depth, h2, g2, q_pattern_nodes, h3, g3])
  rw [if_neg (by simpa using g3)]
  cases hf : foldE (fun _ s u => bindF s u) 0 [] p.pre with
  | inr s =>
    rw [hf] at h4
    have h4' : rangeR P [27] A0_pattern_Check B0_pattern_Check (.p (.fn f_pattern_preorder_1 [.ptr p.row 0])) [(4, .ptr 0 1 0 0), (6, .ptr 2 1 0 0)] [.pv 1 [[.int .i64 0]] false, .map [] false, .av 1 [[.map 1]] false] 61 none = some (.ret, sC 12 s) := h4
    (rw [r_pattern_Check (Nat.le_of_ble_eq_true rfl), F_pattern_Check]; simp (disch := omega) only [eqs, eqL, ↓gc_len, seval, -List.reduceReplicate, reduceCtorEq, omap, depth, pcall, pureR, freezeFor, freezeAll, tupR, resV, purR, enterTm, number, gcOk, rangeEnd, mkTup, allP, q_term_Size, h1, g1, q_term_Depth, h2, g2, q_pattern_nodes, h3, eq_true g3, q_pattern_preorder, s_pattern_preorder, kR0_pattern_Check, h4'])
  | inl s =>
    rw [hf] at h4
    have h4' : rangeR P [27] A0_pattern_Check B0_pattern_Check (.p (.fn f_pattern_preorder_1 [.ptr p.row 0])) [(4, .ptr 0 1 0 0), (6, .ptr 2 1 0 0)] [.pv 1 [[.int .i64 0]] false, .map [] false, .av 1 [[.map 1]] false] 61 none = some (.normal, sC 0 s) := h4
    by_cases g4 : (16 : Int) < s.length
    · simp only
      rw [if_pos (by omega)]
      (rw [r_pattern_Check (Nat.le_of_ble_eq_true rfl), F_pattern_Check]; simp (disch := omega) only [eqs, eqL, ↓gc_len, seval, -List.reduceReplicate, reduceCtorEq, omap, depth, pcall, pureR, freezeFor, freezeAll, tupR, resV, purR, enterTm, number, gcOk, rangeEnd, mkTup, allP, q_term_Size, h1, g1, q_term_Depth, h2, g2, q_pattern_nodes, h3, eq_true g3, q_pattern_preorder, s_pattern_preorder, kR0_pattern_Check, h4', v_lenM_m, List.length_map, g4])
    · simp only
      rw [if_neg (by omega)]
      (rw [r_pattern_Check (Nat.le_of_ble_eq_true rfl), F_pattern_Check]; simp (disch := omega) only [eqs, eqL, ↓gc_len, seval, -List.reduceReplicate, reduceCtorEq, omap, depth, pcall, pureR, freezeFor, freezeAll, tupR, resV, purR, enterTm, number, gcOk, rangeEnd, mkTup, allP, q_term_Size, h1, g1, q_term_Depth, h2, g2, q_pattern_nodes, h3, eq_true g3, q_pattern_preorder, s_pattern_preorder, kR0_pattern_Check, h4', v_lenM_m, List.length_map, g4])
end Go.AE.S
/- A pattern's check, by the reference. -/
namespace Go.AE.S
open Go Go.AE
set_option linter.unusedSimpArgs false
set_option linter.unusedVariables false
variable {τ : Tm} {σ : Store} {rd : Option Nat}

def srow (n : ByteArray) : List PV := [.str n]
def innerF (u : Term) (_ : Nat) (s : Bool) (a : Term) : Bool ⊕ Unit :=
  if isVar a = true ∧ a.name = u.name then (if ¬ a.w = u.w ∨ ¬ a.op = u.op then .inr () else .inl true) else .inl s
def outerF (l : List Term) (i : Nat) (s : List ByteArray) (u : Term) : List ByteArray ⊕ Unit :=
  if isVar u = true then
    match foldE (innerF u) 0 false (l.take i) with
    | .inr _ => .inr ()
    | .inl again => .inl (if again = true then s else s ++ [u.name])
  else .inl s
abbrev e_n1 (l : List Term) (n : Nat) (i : Int) (s : Bool) (k : Int) : List (Nat × AV) := [(4, .p (.lst (l.map Term.row))), (5, .sl 0 n), (6, .p (.int .i64 i)), (7, .p (.bool s)), (8, .p (.int .i64 k))]
def retN (r : Ex × St) : Prop := r.1 = .ret ∧ r.2.τ.get 2 = .nils ∧ r.2.τ.get 3 = .p (.bool false)
set_option maxHeartbeats 4000000 in
theorem l1_names (l : List Term) (n : Nat) (i : Nat) (u : Term) (hu : l[i]? = some u) (hl : l.length ≤ 1000000) :
    doneP (fun s => loopAt P L1_r24_names (e_n1 l n i false 0) σ 82 rd = some (.exit 2, ⟨upd (upd (upd (tm (e_n1 l n i s i)) 24 (.p (.int .i64 i))) 25 (.p (.int .i64 i))) 26 (.p (.bool false)), σ, 82, rd⟩))
      (fun (_ : Unit) => ∃ r, loopAt P L1_r24_names (e_n1 l n i false 0) σ 82 rd = some r ∧ retN r) (foldE (innerF u) 0 false (l.take i)) := by
  have hi : i < l.length := (List.getElem?_eq_some_iff.1 hu).1
  have hlen : (l.take i).length = i := by rw [List.length_take]; omega
  have hui := v_iadr (k := .i64) (σ := σ) (map_get (f := Term.row) hu) u.row_len
  have h := loop_foldE (P := P) (nt := 82) (rd := rd) (lv := [4, 5, 6, 7, 8]) (b := B1_r24_names) (x := 2) (as := l.take i) (fun k (s : Bool) => e_n1 l n i s k) (fun _ => σ) (innerF u)
    (fun s => ⟨upd (upd (upd (tm (e_n1 l n i s i)) 24 (.p (.int .i64 i))) 25 (.p (.int .i64 i))) 26 (.p (.bool false)), σ, 82, rd⟩) (fun (_ : Unit) => retN) (fun _ _ => True)
    (fun k a s ha hk hs => by
      refine ⟨fun _ _ => trivial, ?_⟩
      rw [hlen] at hk
      have ha' : l[k]? = some a := by rw [List.getElem?_take_of_lt hk] at ha; exact ha
      have hlt : ((k : Int) < i) = True := by simpa using hk
      have hai := v_iadr (k := .i64) (σ := σ) (map_get (f := Term.row) ha') a.row_len
      have hv := s_r24_variable a
      unfold innerF isVar
      by_cases h1 : a.op = 24 ∨ a.op = 25
      rotate_left
      · simp only [B1_r24_names, h1]
        simp (disch := omega) only [eqs, eqL, ↓gc_len, seval, -List.reduceReplicate, reduceCtorEq, omap, depth, pcall, pureR, freezeFor, freezeAll, tupR, resV, purR, enterTm, number, gcOk, rangeEnd, mkTup, allP, hlt, hai, q_r24_variable, hv, h1]
      rcases Classical.propComplete (a.name = u.name) with h2 | h2
      rotate_left
      · simp only [B1_r24_names, h1]
        simp (disch := omega) only [eqs, eqL, ↓gc_len, seval, -List.reduceReplicate, reduceCtorEq, omap, depth, pcall, pureR, freezeFor, freezeAll, tupR, resV, purR, enterTm, number, gcOk, rangeEnd, mkTup, allP, hlt, hai, hui, q_r24_variable, hv, h1, h2]
      rcases Classical.propComplete (a.w = u.w) with h3 | h3 <;> rcases Classical.propComplete (a.op = u.op) with h4 | h4 <;> simp only [B1_r24_names, h1] <;> simp (disch := omega) only [eqs, eqL, ↓gc_len, seval, -List.reduceReplicate, reduceCtorEq, omap, depth, pcall, pureR, freezeFor, freezeAll, tupR, resV, purR, enterTm, number, gcOk, rangeEnd, mkTup, allP, hlt, hai, hui, q_r24_variable, hv, h1, h2, h3, h4, retN]) (fun s hs => by
      rw [hlen]
      simp only [B1_r24_names]
      simp (disch := omega) only [eqs, eqL, ↓gc_len, seval, -List.reduceReplicate, reduceCtorEq, omap, depth, pcall, pureR, freezeFor, freezeAll, tupR, resV, purR, enterTm, number, gcOk, rangeEnd, mkTup, allP, Int.lt_irrefl]) (fun i s => rfl) false trivial
  exact h
abbrev e_n0 (l : List Term) (s : List ByteArray) (i : Int) : List (Nat × AV) := [(4, .p (.lst (l.map Term.row))), (5, .sl 0 s.length), (6, .p (.int .i64 i))]
abbrev sS (s : List ByteArray) : Store := [.pv 1 (s.map srow) false]
set_option maxHeartbeats 4000000 in
theorem l0_names (l : List Term) (hl : l.length ≤ 1000000) :
    doneP (fun s => loopAt P L0_r24_names (e_n0 l [] 0) (sS []) 82 none = some (.exit 0, ⟨upd (upd (upd (upd (tm (e_n0 l s l.length)) 12 (.p (.int .i64 l.length))) 13 (.p (.lst (l.map Term.row)))) 14 (.p (.int .i64 l.length))) 15 (.p (.bool false)), sS s, 82, none⟩))
      (fun (_ : Unit) => ∃ r, loopAt P L0_r24_names (e_n0 l [] 0) (sS []) 82 none = some r ∧ retN r) (foldE (outerF l) 0 [] l) := by
  have h := loop_foldE (P := P) (nt := 82) (rd := none) (lv := [4, 5, 6]) (b := B0_r24_names) (x := 0) (as := l) (fun i s => e_n0 l s i) sS (outerF l)
    (fun s => ⟨upd (upd (upd (upd (tm (e_n0 l s l.length)) 12 (.p (.int .i64 l.length))) 13 (.p (.lst (l.map Term.row)))) 14 (.p (.int .i64 l.length))) 15 (.p (.bool false)), sS s, 82, none⟩) (fun (_ : Unit) => retN) (fun i s => s.length ≤ i)
    (fun i u s hu hi hs => by
      have hlt : ((i : Int) < l.length) = True := by simpa using hi
      have hui := v_iadr (k := .i64) (σ := sS s) (map_get (f := Term.row) hu) u.row_len
      have hui2 := v_iadr (k := .i64) (σ := [.pv 1 (s.map srow) false]) (map_get (f := Term.row) hu) u.row_len
      have hv := s_r24_variable u
      have hL := l1_names (σ := sS s) (rd := none) l s.length i u hu hl
      have hap := v_append (σ := [.pv 1 (s.map srow) false, .pv 1 [[.str u.name]] false]) (b := 0) (n := s.length) (e := 1) (es := 1) (bytes := 16) (rows := s.map srow) (new := [[.str u.name]]) rfl (by simp) (.inl rfl) (by simp only [List.length_cons, List.length_nil]; omega)
      unfold outerF isVar
      by_cases h1 : u.op = 24 ∨ u.op = 25
      rotate_left
      · refine ⟨fun s' he => ?_, ?_⟩
        · simp only [h1, decide_false, Bool.false_eq_true, if_false, Sum.inl.injEq] at he
          subst he; omega
        · simp only [B0_r24_names, h1]
          simp (disch := omega) only [eqs, eqL, ↓gc_len, seval, -List.reduceReplicate, reduceCtorEq, omap, depth, pcall, pureR, freezeFor, freezeAll, tupR, resV, purR, enterTm, number, gcOk, rangeEnd, mkTup, allP, hlt, hui, List.length_map, q_r24_variable, hv, h1, e_n0, sS]
      · simp only [h1, decide_true, if_true]
        cases hf : foldE (innerF u) 0 false (l.take i) with
        | inr x =>
          rw [hf] at hL
          obtain ⟨⟨e, τ', σ', nt', rd'⟩, k1, k2, k3, k4⟩ := hL
          simp only at k2 k3 k4
          subst k2
          refine ⟨fun s' he => (by cases he), ?_⟩
          simp only [B0_r24_names]
          simp (disch := omega) only [eqs, eqL, ↓gc_len, seval, -List.reduceReplicate, reduceCtorEq, omap, depth, pcall, pureR, freezeFor, freezeAll, tupR, resV, purR, enterTm, number, gcOk, rangeEnd, mkTup, allP, hlt, hui, List.length_map, q_r24_variable, hv, h1, e_n0, sS, k1_r24_names, k1, retN, k3, k4]
        | inl again =>
          rw [hf] at hL
          have hL' : loopAt P L1_r24_names (e_n1 l s.length i false 0) (sS s) 82 none = _ := hL
          refine ⟨fun s' he => ?_, ?_⟩
          · simp only [Sum.inl.injEq] at he
            subst he
            split
            · omega
            · rw [List.length_append]; simp only [List.length_cons, List.length_nil]; omega
          · cases again with
            | true =>
              simp only [B0_r24_names]
              simp (disch := omega) only [eqs, eqL, ↓gc_len, seval, -List.reduceReplicate, reduceCtorEq, omap, depth, pcall, pureR, freezeFor, freezeAll, tupR, resV, purR, enterTm, number, gcOk, rangeEnd, mkTup, allP, hlt, hui, List.length_map, q_r24_variable, hv, h1, e_n0, sS, k1_r24_names, hL']
            | false =>
              simp only [B0_r24_names]
              simp (disch := omega) only [eqs, eqL, ↓gc_len, seval, -List.reduceReplicate, reduceCtorEq, omap, depth, pcall, pureR, freezeFor, freezeAll, tupR, resV, purR, enterTm, number, gcOk, rangeEnd, mkTup, allP, hlt, hui, hui2, List.length_map, q_r24_variable, hv, h1, e_n0, sS, k1_r24_names, hL', hap, List.map_append, List.length_append, srow]) (fun s hs => by
      simp only [B0_r24_names]
      simp (disch := omega) only [eqs, eqL, ↓gc_len, seval, -List.reduceReplicate, reduceCtorEq, omap, depth, pcall, pureR, freezeFor, freezeAll, tupR, resV, purR, enterTm, number, gcOk, rangeEnd, mkTup, allP, Int.lt_irrefl, List.length_map]) (fun i s => rfl) [] (by simp)
  exact h
theorem s_r24_names (t : Term) (hc : t.count ≤ 1000000) : R P f_r24_names [.agg t.row] = some (match foldE (outerF t.pre) 0 [] t.pre with
    | .inl s => .tup [.lst (s.map srow), .bool true]
    | .inr _ => .tup [.lst [], .bool false]) := by
  have hp := s_r24_Preorder t hc
  have hL := l0_names t.pre (by rw [Term.pre_len]; omega)
  cases hf : foldE (outerF t.pre) 0 [] t.pre with
  | inl s =>
    rw [hf] at hL
    have hL' : loopAt P L0_r24_names [(4, .p (.lst (t.pre.map Term.row))), (5, .sl 0 0), (6, .p (.int .i64 0))] [.pv 1 [] false] 82 none = _ := hL
    (rw [r_r24_names (Nat.le_of_ble_eq_true rfl), F_r24_names]; simp (disch := omega) only [eqs, eqL, ↓gc_len, seval, -List.reduceReplicate, reduceCtorEq, omap, depth, pcall, pureR, freezeFor, freezeAll, tupR, resV, purR, enterTm, number, gcOk, rangeEnd, mkTup, allP, q_r24_Preorder, hp, k0_r24_names, hL', List.length_map])
  | inr x =>
    rw [hf] at hL
    obtain ⟨⟨e, τ', σ', nt', rd'⟩, k1, k2, k3, k4⟩ := hL
    simp only at k2 k3 k4
    subst k2
    have hL' : loopAt P L0_r24_names [(4, .p (.lst (t.pre.map Term.row))), (5, .sl 0 0), (6, .p (.int .i64 0))] [.pv 1 [] false] 82 none = some (.ret, ⟨τ', σ', nt', rd'⟩) := k1
    (rw [r_r24_names (Nat.le_of_ble_eq_true rfl), F_r24_names]; simp (disch := omega) only [eqs, eqL, ↓gc_len, seval, -List.reduceReplicate, reduceCtorEq, omap, depth, pcall, pureR, freezeFor, freezeAll, tupR, resV, purR, enterTm, number, gcOk, rangeEnd, mkTup, allP, q_r24_Preorder, hp, k0_r24_names, hL', k3, k4])
end Go.AE.S
/- Check of the reference is Check of the program. -/
namespace Go.AE.S
open Go Go.AE
set_option linter.unusedSimpArgs false
set_option linter.unusedVariables false
variable {τ : Tm} {σ : Store} {rd : Option Nat}

def clash (u a : Term) : Bool := isVar a && decide (a.name = u.name) && (!decide (a.w = u.w) || !decide (a.op = u.op))
def twin (u a : Term) : Bool := isVar a && decide (a.name = u.name)
theorem fold_inner (u : Term) : ∀ (l : List Term) (i : Nat) (s : Bool), foldE (innerF u) i s l = if l.any (clash u) = true then .inr () else .inl (s || l.any (twin u))
  | [], i, s => by simp [foldE]
  | a :: l, i, s => by
    by_cases h1 : isVar a = true ∧ a.name = u.name
    · have ht : twin u a = true := by simp [twin, h1.1, h1.2]
      by_cases h2 : ¬ a.w = u.w ∨ ¬ a.op = u.op
      · have hc : clash u a = true := by
          simp only [clash, h1.1, h1.2, decide_true, Bool.and_self, Bool.true_and, Bool.or_eq_true, Bool.not_eq_true', decide_eq_false_iff_not]
          exact h2
        have e : innerF u i s a = .inr () := by rw [innerF, if_pos h1, if_pos h2]
        simp only [foldE, e, List.any_cons, hc, Bool.true_or, if_true]
      · have hc : clash u a = false := by
          rw [not_or, Decidable.not_not, Decidable.not_not] at h2
          simp [clash, h2.1, h2.2]
        have e : innerF u i s a = .inl true := by rw [innerF, if_pos h1, if_neg h2]
        simp only [foldE, e, List.any_cons, hc, ht, Bool.false_or, Bool.true_or, Bool.or_true]
        exact fold_inner u l (i + 1) true
    · have ht : twin u a = false := by
        rw [Bool.eq_false_iff]
        simpa [twin] using h1
      have hc : clash u a = false := by
        have := ht
        simp only [twin] at this
        simp [clash, this]
      have e : innerF u i s a = .inl s := by rw [innerF, if_neg h1]
      simp only [foldE, e, List.any_cons, hc, ht, Bool.false_or]
      exact fold_inner u l (i + 1) s
structure Inv (pre : List Term) (es : List (ByteArray × Term)) (out : List ByteArray) : Prop where
  names : es.map (·.1) = out
  ents : ∀ e ∈ es, isVar e.2 = true ∧ e.2.name = e.1 ∧ e.2 ∈ pre
  all : ∀ a ∈ pre, isVar a = true → ∃ o, lkB es a.name = some o ∧ o.op = a.op ∧ o.w = a.w
theorem lk_mem {es : List (ByteArray × Term)} {k : ByteArray} {o : Term} (h : lkB es k = some o) : (k, o) ∈ es := by
  induction es with
  | nil => cases h
  | cons e r ih =>
    simp only [lkB] at h
    split at h
    · rename_i hk
      cases h
      rw [hk]; simp
    · exact List.mem_cons_of_mem _ (ih h)
theorem st_none {es : List (ByteArray × Term)} {u : Term} (h : lkB es u.name = none) : stB u es = es ++ [(u.name, u)] := by
  induction es with
  | nil => rfl
  | cons e r ih =>
    simp only [lkB] at h
    split at h
    · cases h
    · rename_i hk
      simp only [stB, hk, if_false, ih h, List.cons_append]
theorem st_names {es : List (ByteArray × Term)} {u o : Term} (h : lkB es u.name = some o) : (stB u es).map (·.1) = es.map (·.1) := by
  induction es with
  | nil => cases h
  | cons e r ih =>
    simp only [lkB] at h
    simp only [stB]
    split at h
    · rename_i hk
      simp [hk]
    · rename_i hk
      simp only [hk, if_false, List.map_cons, ih h]
theorem st_mem {es : List (ByteArray × Term)} {u : Term} {e : ByteArray × Term} (h : e ∈ stB u es) : e = (u.name, u) ∨ e ∈ es := by
  induction es with
  | nil => simp [stB] at h; exact .inl h
  | cons x r ih =>
    simp only [stB] at h
    split at h
    · rcases List.mem_cons.1 h with h | h
      · exact .inl h
      · exact .inr (by simp [h])
    · rcases List.mem_cons.1 h with h | h
      · exact .inr (by simp [h])
      · rcases ih h with h | h
        · exact .inl h
        · exact .inr (by simp [h])
theorem lk_st {es : List (ByteArray × Term)} {u : Term} {k : ByteArray} : lkB (stB u es) k = if k = u.name then some u else lkB es k := by
  induction es with
  | nil => simp [stB, lkB]
  | cons e r ih =>
    simp only [stB]
    by_cases h : u.name = e.1
    · rw [if_pos h]
      simp only [lkB]
      by_cases hk : k = u.name
      · simp [hk]
      · simp [hk, show ¬ k = e.1 from fun x => hk (x.trans h.symm)]
    · rw [if_neg h]
      simp only [lkB, ih]
      by_cases hk : k = e.1
      · rw [if_pos hk, if_neg (fun x => h (x.symm.trans hk)), if_pos hk]
      · rw [if_neg hk, if_neg hk]
theorem bind_names (l : List Term) : ∀ (r pre : List Term) (es : List (ByteArray × Term)) (out : List ByteArray) (i : Nat), l = pre ++ r → Inv pre es out →
    match foldE (fun _ s u => bindF s u) i es r, foldE (outerF l) pre.length out r with
    | .inl s, .inl o => s.length = o.length
    | .inr _, .inr _ => True
    | _, _ => False
  | [], pre, es, out, i, _, hI => by
    simp only [foldE]
    rw [← hI.names, List.length_map]
  | u :: r, pre, es, out, i, hl, hI => by
    simp only [foldE]
    have htk : l.take pre.length = pre := by rw [hl]; simp
    have next : ∀ es' out', Inv (pre ++ [u]) es' out' → match foldE (fun _ s u => bindF s u) (i + 1) es' r, foldE (outerF l) (pre.length + 1) out' r with
        | .inl s, .inl o => s.length = o.length
        | .inr _, .inr _ => True
        | _, _ => False := by
      intro es' out' hI'
      have := bind_names l r (pre ++ [u]) es' out' (i + 1) (by rw [hl]; simp) hI'
      simpa using this
    cases hv : isVar u with
    | false =>
      have e1 : bindF es u = .inl es := by simp [bindF, hv]
      have e2 : outerF l pre.length out u = .inl out := by simp [outerF, hv]
      rw [e1, e2]
      refine next es out ⟨hI.names, fun e he => ?_, fun a ha hva => ?_⟩
      · obtain ⟨h1, h2, h3⟩ := hI.ents e he
        exact ⟨h1, h2, by simp [h3]⟩
      · rcases List.mem_append.1 ha with ha | ha
        · exact hI.all a ha hva
        · simp only [List.mem_singleton] at ha
          rw [ha, hv] at hva; cases hva
    | true =>
      have hin := fold_inner u pre 0 false
      have e2 : outerF l pre.length out u = match foldE (innerF u) 0 false pre with
          | .inr _ => .inr ()
          | .inl again => .inl (if again = true then out else out ++ [u.name]) := by
        (simp only [outerF, hv, if_true, htk]) <;> rfl
      have e1 : bindF es u = match lkB es u.name with
          | some o => if o.op = u.op ∧ o.w = u.w then .inl (stB u es) else .inr es
          | none => .inl (stB u es) := by (simp only [bindF, hv, if_true]) <;> rfl
      rw [e1, e2, hin]
      cases hk : lkB es u.name with
      | none =>
        have hno : ∀ a ∈ pre, twin u a = false := by
          intro a ha
          rw [Bool.eq_false_iff]
          intro ht
          simp only [twin, Bool.and_eq_true, decide_eq_true_eq] at ht
          obtain ⟨o, ho, _⟩ := hI.all a ha ht.1
          rw [ht.2, hk] at ho
          cases ho
        have h1 : pre.any (clash u) = false := by
          rw [List.any_eq_false]
          intro a ha
          have := hno a ha
          simp only [twin] at this
          simp [clash, this]
        have h2 : pre.any (twin u) = false := by
          rw [List.any_eq_false]
          intro a ha
          simp [hno a ha]
        simp only [h1, h2, Bool.false_eq_true, if_false, Bool.or_self]
        refine next _ _ ⟨?_, fun e he => ?_, fun a ha hva => ?_⟩
        · rw [st_none hk, List.map_append, hI.names]; rfl
        · rcases st_mem he with rfl | he
          · exact ⟨hv, rfl, by simp⟩
          · obtain ⟨h1, h2, h3⟩ := hI.ents e he
            exact ⟨h1, h2, by simp [h3]⟩
        · rw [lk_st]
          rcases List.mem_append.1 ha with ha | ha
          · by_cases hn : a.name = u.name
            · have := hno a ha
              simp [twin, hva, hn] at this
            · rw [if_neg hn]
              exact hI.all a ha hva
          · simp only [List.mem_singleton] at ha
            subst ha
            rw [if_pos rfl]
            exact ⟨_, rfl, rfl, rfl⟩
      | some o =>
        obtain ⟨o1, o2, o3⟩ := hI.ents _ (lk_mem hk)
        simp only at o1 o2 o3
        by_cases ho : o.op = u.op ∧ o.w = u.w
        · have h1 : pre.any (clash u) = false := by
            rw [List.any_eq_false]
            intro a ha hc
            simp only [clash, Bool.and_eq_true, decide_eq_true_eq, Bool.or_eq_true, Bool.not_eq_true', decide_eq_false_iff_not] at hc
            obtain ⟨o', h1, h2, h3⟩ := hI.all a ha hc.1.1
            rw [hc.1.2, hk] at h1
            cases h1
            rcases hc.2 with h | h
            · exact h (h3.symm.trans ho.2)
            · exact h (h2.symm.trans ho.1)
          have h2 : pre.any (twin u) = true := by
            rw [List.any_eq_true]
            exact ⟨o, o3, by simp [twin, o1, o2]⟩
          simp only [h1, h2, Bool.false_eq_true, if_false, Bool.or_true, if_true, ho, and_self]
          refine next _ _ ⟨?_, fun e he => ?_, fun a ha hva => ?_⟩
          · rw [st_names hk]; exact hI.names
          · rcases st_mem he with rfl | he
            · exact ⟨hv, rfl, by simp⟩
            · obtain ⟨h1, h2, h3⟩ := hI.ents e he
              exact ⟨h1, h2, by simp [h3]⟩
          · rw [lk_st]
            rcases List.mem_append.1 ha with ha | ha
            · by_cases hn : a.name = u.name
              · rw [if_pos hn]
                obtain ⟨o', k1, k2, k3⟩ := hI.all a ha hva
                rw [hn, hk] at k1
                cases k1
                exact ⟨_, rfl, ho.1.symm.trans k2, ho.2.symm.trans k3⟩
              · rw [if_neg hn]
                exact hI.all a ha hva
            · simp only [List.mem_singleton] at ha
              subst ha
              rw [if_pos rfl]
              exact ⟨_, rfl, rfl, rfl⟩
        · have h1 : pre.any (clash u) = true := by
            rw [List.any_eq_true]
            refine ⟨o, o3, ?_⟩
            simp only [clash, o1, o2, decide_true, Bool.and_self, Bool.true_and, Bool.or_eq_true, Bool.not_eq_true', decide_eq_false_iff_not]
            by_cases hw : o.w = u.w
            · exact .inr fun h => ho ⟨h, hw⟩
            · exact .inl hw
          simp only [h1, if_true, ho, if_false]
abbrev e_CheckR (t : Term) (ev : Bool) (i : Int) : List (Nat × AV) := [(1, .p (.bool ev)), (2, .p (.ptr t.row 0)), (5, .p (.lst (t.post.map Term.row))), (6, .p (.int .i64 i))]
theorem fold_first (ev : Bool) : ∀ (l : List Term) (i : Nat), doneP (fun _ => firstE ev l = 0) (fun e => firstE ev l = e ∧ e ≠ 0) (foldE (S := Unit) (T := Int) (fun _ _ a => if nodeE a ev = 0 then .inl () else .inr (nodeE a ev)) i () l)
  | [], i => rfl
  | a :: l, i => by
    simp only [foldE, firstE]
    by_cases h : nodeE a ev = 0
    · simp only [h, if_true]; exact fold_first ev l (i + 1)
    · simp only [h, if_false]; exact ⟨rfl, h⟩
theorem tok_post {t : Term} : TOk t → t.count ≤ 1000000 → ∀ a ∈ t.post, TOk a ∧ a.count ≤ 1000000 := by
  induction t using Term.ind with
  | h t ih =>
  intro ht hc a ha
  rw [Term.post_eq, Term.posts_eq] at ha
  rcases List.mem_append.1 ha with ha | ha
  · obtain ⟨b, hb, hab⟩ := List.mem_flatMap.1 ha
    have := Term.counts_mem hb
    have := Term.count_eq t
    exact ih b hb (ht.args hb) (by omega) a hab
  · simp only [List.mem_singleton] at ha
    subst ha
    exact ⟨ht, hc⟩
theorem s_r24_Check (p : Term) (ev : Bool) (ht : TOk p) (hc : p.count ≤ 1000000) : R P f_r24_Check [.agg p.row, .bool ev] = some (.int .i64 (checkE p ev)) := by
  have h1 := s_r10_Small p ht 4096 (by omega) (by omega)
  have h2 := s_r07_Deep p ht 64 (by omega)
  have hpo := s_r24_Postorder p hc
  have hpl := Term.post_len p
  unfold checkE
  by_cases g1 : (p.count : Int) ≤ 4096
  rotate_left
  · rw [if_pos (by omega)]
    (rw [r_r24_Check (Nat.le_of_ble_eq_true rfl), F_r24_Check]; simp (disch := omega) only [eqs, eqL, ↓gc_len, seval, -List.reduceReplicate, reduceCtorEq, omap, depth, pcall, pureR, freezeFor, freezeAll, tupR, resV, purR, enterTm, number, gcOk, rangeEnd, mkTup, allP, q_r10_Small, h1, g1])
  by_cases g2 : (64 : Int) < p.deep
  · rw [if_pos (by omega)]
    (rw [r_r24_Check (Nat.le_of_ble_eq_true rfl), F_r24_Check]; simp (disch := omega) only [eqs, eqL, ↓gc_len, seval, -List.reduceReplicate, reduceCtorEq, omap, depth, pcall, pureR, freezeFor, freezeAll, tupR, resV, purR, enterTm, number, gcOk, rangeEnd, mkTup, allP, q_r10_Small, h1, g1, q_r07_Deep, h2, g2])
  rw [if_neg (by omega)]
  have h := loop_foldE (P := P) (nt := 44) (rd := none) (lv := [1, 2, 5, 6]) (b := B0_r24_Check) (x := 0) (as := p.post) (fun i (_ : Unit) => e_CheckR p ev i) (fun _ => []) (fun _ _ a => if nodeE a ev = 0 then .inl () else .inr (nodeE a ev))
    (fun s => ⟨upd (upd (upd (upd (tm (e_CheckR p ev p.post.length)) 19 (.p (.int .i64 p.post.length))) 20 (.p (.lst (p.post.map Term.row)))) 21 (.p (.int .i64 p.post.length))) 22 (.p (.bool false)), [], 44, none⟩) (fun e => ret1 4 (.int .i64 e) []) (fun _ _ => True)
    (fun i a s ha hi hs => by
      refine ⟨fun _ _ => trivial, ?_⟩
      obtain ⟨hta, hca⟩ := tok_post ht hc a (List.mem_of_getElem? ha)
      have hr := s_r24_node a ev hta hca
      have hlt : ((i : Int) < p.post.length) = True := by simpa using hi
      by_cases hf : nodeE a ev = 0
      · simp only [B0_r24_Check]
        simp (disch := omega) only [eqs, eqL, ↓gc_len, seval, -List.reduceReplicate, reduceCtorEq, omap, depth, pcall, pureR, freezeFor, freezeAll, tupR, resV, purR, enterTm, number, gcOk, rangeEnd, mkTup, allP, hlt, List.length_map, v_iadr (map_get (f := Term.row) ha) a.row_len, q_r24_node, hr, eq_true hf]
      · simp only [B0_r24_Check]
        simp (disch := omega) only [eqs, eqL, ↓gc_len, seval, -List.reduceReplicate, reduceCtorEq, omap, depth, pcall, pureR, freezeFor, freezeAll, tupR, resV, purR, enterTm, number, gcOk, rangeEnd, mkTup, allP, hlt, List.length_map, v_iadr (map_get (f := Term.row) ha) a.row_len, q_r24_node, hr, hf, ret1]) (fun s hs => by
      simp only [B0_r24_Check]
      simp (disch := omega) only [eqs, eqL, ↓gc_len, seval, -List.reduceReplicate, reduceCtorEq, omap, depth, pcall, pureR, freezeFor, freezeAll, tupR, resV, purR, enterTm, number, gcOk, rangeEnd, mkTup, allP, Int.lt_irrefl, List.length_map]) (fun i s => rfl) () trivial
  have hf := fold_first ev p.post 0
  cases hfe : foldE (S := Unit) (T := Int) (fun _ _ a => if nodeE a ev = 0 then .inl () else .inr (nodeE a ev)) 0 () p.post with
  | inr e =>
    rw [hfe] at h hf
    obtain ⟨⟨e', τ', σ', nt', rd'⟩, k1, k2, k3, k4⟩ := h
    simp only at k2 k3 k4
    subst k2; subst k4
    have h' : loopAt P L0_r24_Check (e_CheckR p ev 0) [] 44 none = some (.ret, ⟨τ', [], nt', rd'⟩) := k1
    have hf' : firstE ev p.post = e ∧ e ≠ 0 := hf
    rw [hf'.1, if_pos hf'.2]
    (rw [r_r24_Check (Nat.le_of_ble_eq_true rfl), F_r24_Check]; simp (disch := omega) only [eqs, eqL, ↓gc_len, seval, -List.reduceReplicate, reduceCtorEq, omap, depth, pcall, pureR, freezeFor, freezeAll, tupR, resV, purR, enterTm, number, gcOk, rangeEnd, mkTup, allP, q_r10_Small, h1, g1, q_r07_Deep, h2, g2, q_r24_Postorder, hpo, k0_r24_Check, h', k3])
  | inl s =>
    rw [hfe] at h hf
    have h' : loopAt P L0_r24_Check (e_CheckR p ev 0) [] 44 none = _ := h
    have hf' : firstE ev p.post = 0 := hf
    rw [if_neg (by simpa using hf')]
    have hnm := s_r24_names p hc
    have hbn := bind_names p.pre p.pre [] [] [] 0 rfl ⟨rfl, by simp, by simp⟩
    simp only [List.length_nil] at hbn
    cases hb : foldE (fun _ s u => bindF s u) 0 [] p.pre with
    | inr x =>
      rw [hb] at hbn
      cases ho : foldE (outerF p.pre) 0 [] p.pre with
      | inl y => rw [ho] at hbn; exact hbn.elim
      | inr y =>
        rw [ho] at hnm
        (rw [r_r24_Check (Nat.le_of_ble_eq_true rfl), F_r24_Check]; simp (disch := omega) only [eqs, eqL, ↓gc_len, seval, -List.reduceReplicate, reduceCtorEq, omap, depth, pcall, pureR, freezeFor, freezeAll, tupR, resV, purR, enterTm, number, gcOk, rangeEnd, mkTup, allP, q_r10_Small, h1, g1, q_r07_Deep, h2, g2, q_r24_Postorder, hpo, k0_r24_Check, h', q_r24_names, hnm])
    | inl s =>
      rw [hb] at hbn
      cases ho : foldE (outerF p.pre) 0 [] p.pre with
      | inr y => rw [ho] at hbn; exact hbn.elim
      | inl y =>
        rw [ho] at hnm hbn
        simp only at hbn hnm
        simp only
        by_cases g4 : (16 : Int) < y.length
        · rw [if_pos (by omega)]
          (rw [r_r24_Check (Nat.le_of_ble_eq_true rfl), F_r24_Check]; simp (disch := omega) only [eqs, eqL, ↓gc_len, seval, -List.reduceReplicate, reduceCtorEq, omap, depth, pcall, pureR, freezeFor, freezeAll, tupR, resV, purR, enterTm, number, gcOk, rangeEnd, mkTup, allP, q_r10_Small, h1, g1, q_r07_Deep, h2, g2, q_r24_Postorder, hpo, k0_r24_Check, h', q_r24_names, hnm, List.length_map, g4])
        · rw [if_neg (by omega)]
          (rw [r_r24_Check (Nat.le_of_ble_eq_true rfl), F_r24_Check]; simp (disch := omega) only [eqs, eqL, ↓gc_len, seval, -List.reduceReplicate, reduceCtorEq, omap, depth, pcall, pureR, freezeFor, freezeAll, tupR, resV, purR, enterTm, number, gcOk, rangeEnd, mkTup, allP, q_r10_Small, h1, g1, q_r07_Deep, h2, g2, q_r24_Postorder, hpo, k0_r24_Check, h', q_r24_names, hnm, List.length_map, g4])
end Go.AE.S
/- A pattern at a width, by the program. --M-- -/
namespace Go.AE
namespace Term
mutual
/-- A pattern at a width, and whether the widths agree. -/
def atX (wd : Int) : Term → Term × Bool
  | .mk o w v s [] => (.mk o (if w = 0 then wd else w) (if w = 0 ∧ o = 2 then S.cutW wd v else v) s [], true)
  | .mk o w v s (a :: as) =>
    match atsX wd (a :: as) with
    | some l => (.mk o (S.widthW o w v (l.map Term.w)).1 v s l, decide ((S.widthW o w v (l.map Term.w)).2 = 0))
    | none => (.mk 0 0 0 (S.bs []) [], false)
def atsX (wd : Int) : List Term → Option (List Term)
  | [] => some []
  | a :: as =>
    let x := atX wd a
    if x.2 = true then (atsX wd as).map (x.1 :: ·) else none
end
end Term
namespace S
open Go Go.AE
set_option linter.unusedSimpArgs false
set_option linter.unusedVariables false
variable {τ : Tm} {σ : Store} {rd : Option Nat}

theorem at_leaf (wd : Int) (t : Term) (h : t.args = []) : t.atX wd = (.mk t.op (if t.w = 0 then wd else t.w) (if t.w = 0 ∧ t.op = 2 then cutW wd t.v else t.v) t.name [], true) := by
  cases t with | mk o w v s as => simp only [Term.args] at h; subst h; rw [Term.atX]; rfl
theorem at_node (wd : Int) (t : Term) (h : t.args ≠ []) : t.atX wd = match Term.atsX wd t.args with
    | some l => (.mk t.op (widthW t.op t.w t.v (l.map Term.w)).1 t.v t.name l, decide ((widthW t.op t.w t.v (l.map Term.w)).2 = 0))
    | none => (.mk 0 0 0 (bs []) [], false) := by
  cases t with
  | mk o w v s as =>
    simp only [Term.args] at h
    cases as with
    | nil => exact absurd rfl h
    | cons a as => simp only [Term.atX, Term.op, Term.w, Term.v, Term.name, Term.args]; cases Term.atsX wd (a :: as) <;> rfl
abbrev z5 (l : Nat) : List AV := [.p (.int .i64 0), .p (.int .i64 0), .p (.int .u64 0), .p (.str (bs [])), .sl l 0]
abbrev sA (t : Term) (s : List Term) : Store := [.pv 0 [] false, .av 5 [z5 0] false, .pv (esOf 5 s) (s.map Term.row) false, .av 5 [[.p (.int .i64 t.op), .p (.int .i64 t.w), .p (.int .u64 t.v), .p (.str t.name), .sl 2 s.length]] false]
abbrev e_at (t : Term) (wd i : Int) : List (Nat × AV) := [(1, .p (.int .i64 wd)), (2, .p (.ptr t.row 0)), (4, .ptr 1 1 0 0), (6, .ptr 3 1 0 0), (41, .p (.lst (t.args.map Term.row))), (42, .p (.int .i64 t.args.length)), (43, .p (.int .i64 i))]
def outA (t : Term) (s : List Term) (r : Ex × St) : Prop := r.1 = .ret ∧ r.2.τ.get 4 = .ptr 1 1 0 0 ∧ r.2.τ.get 5 = .p (.bool false) ∧
  r.2.σ = [.pv 0 [] false, .av 5 [z5 4] false, .pv (esOf 5 s) (s.map Term.row) false, .av 5 [[.p (.int .i64 t.op), .p (.int .i64 t.w), .p (.int .u64 t.v), .p (.str t.name), .sl 2 s.length]] false, .pv 0 [] false]
def atS (wd : Int) (_ : Nat) (s : List Term) (a : Term) : List Term ⊕ List Term := if (a.atX wd).2 = true then .inl (s ++ [(a.atX wd).1]) else .inr s
theorem fold_at (wd : Int) : ∀ (l : List Term) (i : Nat) (s : List Term), match Term.atsX wd l with
    | some m => foldE (atS wd) i s l = .inl (s ++ m) ∧ m.length = l.length
    | none => ∃ s', foldE (atS wd) i s l = .inr s'
  | [], i, s => by simp [Term.atsX, foldE]
  | a :: l, i, s => by
    simp only [Term.atsX, foldE, atS]
    by_cases h : (a.atX wd).2 = true
    · simp only [h, if_true]
      have ih := fold_at wd l (i + 1) (s ++ [(a.atX wd).1])
      cases hm : Term.atsX wd l with
      | some m =>
        rw [hm] at ih
        simp only [Option.map_some]
        refine ⟨?_, by simp [ih.2]⟩
        have := ih.1
        simpa [atS] using this
      | none =>
        rw [hm] at ih
        simp only [Option.map_none]
        exact ih
    · simp only [h, if_false]
      exact ⟨s, rfl⟩
theorem flat_ints {l : List Int} (h : l ≠ []) : PV.flat (.lst (l.map irow)) = false := by
  cases l with
  | nil => exact absurd rfl h
  | cons a l => simp [PV.flat]
theorem s_pattern_at (t : Term) (wd : Int) (hw : -9223372036854775808 ≤ wd ∧ wd ≤ 9223372036854775807) : TOk t → t.count ≤ 1000000 → R P f_pattern_at [.agg t.row, .int .i64 wd] = some (.tup [.agg (t.atX wd).1.row, .bool (t.atX wd).2]) := by
  induction t using Term.ind with
  | h t ih =>
  intro ht hc
  have hlen := Term.counts_len t.args
  have hct := Term.count_eq t
  by_cases hz : t.args = []
  · have hz' : ((t.args.length : Nat) : Int) = 0 := by rw [hz]; rfl
    rw [at_leaf wd t hz]
    have hcut := s_bits_Cut wd t.v ht.v
    by_cases h1 : t.w = 0
    · by_cases h2 : t.op = 2
      · (rw [r_pattern_at (Nat.le_of_ble_eq_true rfl), F_pattern_at]; simp (disch := omega) only [eqs, eqL, ↓gc_len, seval, -List.reduceReplicate, reduceCtorEq, omap, depth, pcall, pureR, freezeFor, freezeAll, tupR, resV, purR, enterTm, number, gcOk, rangeEnd, mkTup, allP, eqM, List.length_map, eq_true hz', eq_true h1, eq_true h2, q_bits_Cut, hcut, h1, h2])
        simp [Term.row, Term.rows, h1, h2]
      · (rw [r_pattern_at (Nat.le_of_ble_eq_true rfl), F_pattern_at]; simp (disch := omega) only [eqs, eqL, ↓gc_len, seval, -List.reduceReplicate, reduceCtorEq, omap, depth, pcall, pureR, freezeFor, freezeAll, tupR, resV, purR, enterTm, number, gcOk, rangeEnd, mkTup, allP, eqM, List.length_map, eq_true hz', eq_true h1, h2])
        simp [Term.row, Term.rows, h1, h2]
    · (rw [r_pattern_at (Nat.le_of_ble_eq_true rfl), F_pattern_at]; simp (disch := omega) only [eqs, eqL, ↓gc_len, seval, -List.reduceReplicate, reduceCtorEq, omap, depth, pcall, pureR, freezeFor, freezeAll, tupR, resV, purR, enterTm, number, gcOk, rangeEnd, mkTup, allP, eqM, List.length_map, eq_true hz', h1])
      simp [Term.row, Term.rows, h1]
  · have hz' : ¬ ((t.args.length : Nat) : Int) = 0 := by
      intro h; exact hz (List.length_eq_zero_iff.1 (by omega))
    have h := loop_foldE (P := P) (nt := 81) (rd := none) (lv := [1, 2, 4, 6, 41, 42, 43]) (b := B0_pattern_at) (x := 0) (as := t.args) (fun i (_ : List Term) => e_at t wd i) (sA t) (atS wd)
      (fun s => ⟨upd (tm (e_at t wd t.args.length)) 44 (.p (.bool false)), sA t s, 81, none⟩) (outA t) (fun i s => s.length = i)
      (fun i a s ha hi hs => by
        have hm := List.mem_of_getElem? ha
        have hac := Term.counts_mem hm
        have hr := ih a hm (ht.args hm) (by omega)
        have hlt : ((i : Int) < t.args.length) = True := by simpa using hi
        unfold atS
        generalize hx : a.atX wd = x at hr
        obtain ⟨x, ok⟩ := x
        cases ok with
        | true =>
          have hap := v_append (σ := sA t s ++ [.pv 5 [x.row] false]) (b := 2) (n := s.length) (e := esOf 5 s) (es := 5) (bytes := 64) (rows := s.map Term.row) (new := [x.row]) rfl (by simp) (esOf_or _ _ _) (by simp only [List.length_cons, List.length_nil]; omega)
          simp only [sA, z5, List.cons_append, List.nil_append] at hap
          refine ⟨fun s' he => by simp at he; subst he; simp [hs], ?_⟩
          simp only [B0_pattern_at]
          simp (disch := omega) only [eqs, eqL, ↓gc_len, seval, -List.reduceReplicate, reduceCtorEq, omap, depth, pcall, pureR, freezeFor, freezeAll, tupR, resV, purR, enterTm, number, gcOk, rangeEnd, mkTup, allP, eqM, hlt, v_iadr (map_get (f := Term.row) ha) a.row_len, q_pattern_at, hr, sA, z5, hap, List.map_append, List.length_append, esOf_snoc, e_at]
        | false =>
          refine ⟨fun s' he => by simp at he, ?_⟩
          simp only [B0_pattern_at]
          simp (disch := omega) only [eqs, eqL, ↓gc_len, seval, -List.reduceReplicate, reduceCtorEq, omap, depth, pcall, pureR, freezeFor, freezeAll, tupR, resV, purR, enterTm, number, gcOk, rangeEnd, mkTup, allP, eqM, hlt, v_iadr (map_get (f := Term.row) ha) a.row_len, q_pattern_at, hr, sA, z5, outA, e_at]) (fun s hs => by
        simp only [B0_pattern_at]
        simp (disch := omega) only [eqs, eqL, ↓gc_len, seval, -List.reduceReplicate, reduceCtorEq, omap, depth, pcall, pureR, freezeFor, freezeAll, tupR, resV, purR, enterTm, number, gcOk, rangeEnd, mkTup, allP, eqM, Int.lt_irrefl]) (fun i s => rfl) [] (by simp)
    have hf := fold_at wd t.args 0 []
    rw [at_node wd t hz]
    cases hm : Term.atsX wd t.args with
    | none =>
      rw [hm] at hf
      obtain ⟨s', hf⟩ := hf
      rw [hf] at h
      obtain ⟨⟨e, τ', σ', nt', rd'⟩, k1, k2, k3, k4, k5⟩ := h
      simp only at k2 k3 k4 k5
      subst k2; subst k5
      have h' : loopAt P L0_pattern_at (e_at t wd 0) [.pv 0 [] false, .av 5 [z5 0] false, .pv 0 [] false, .av 5 [[.p (.int .i64 t.op), .p (.int .i64 t.w), .p (.int .u64 t.v), .p (.str t.name), .sl 2 0]] false] 81 none = _ := k1
      simp only [z5] at h'
      (rw [r_pattern_at (Nat.le_of_ble_eq_true rfl), F_pattern_at]; simp (disch := omega) only [eqs, eqL, ↓gc_len, seval, -List.reduceReplicate, reduceCtorEq, omap, depth, pcall, pureR, freezeFor, freezeAll, tupR, resV, purR, enterTm, number, gcOk, rangeEnd, mkTup, allP, eqM, List.length_map, hz', k0_pattern_at, h', k3, k4])
      simp [Term.row, Term.rows]
    | some m =>
      rw [hm] at hf
      simp only [List.nil_append] at hf
      rw [hf.1] at h
      have h' : loopAt P L0_pattern_at (e_at t wd 0) [.pv 0 [] false, .av 5 [z5 0] false, .pv 0 [] false, .av 5 [[.p (.int .i64 t.op), .p (.int .i64 t.w), .p (.int .u64 t.v), .p (.str t.name), .sl 2 0]] false] 81 none = _ := h
      simp only [z5, sA] at h'
      have hml : m.length ≤ 1000000 := by omega
      have hne : m.map Term.w ≠ [] := by intro h; exact hz (List.length_eq_zero_iff.1 (by rw [← hf.2, ← List.length_map (f := Term.w), h]; rfl))
      have hwd := s_pattern_widths m hml
      have hfl := flat_ints hne
      have hW := s_opinfo_Width t.op t.w t.v (m.map Term.w) (by rw [List.length_map]; omega) ht.v
      generalize hq : widthW t.op t.w t.v (m.map Term.w) = q at hW
      obtain ⟨q1, q2⟩ := q
      simp only [two] at hW
      rcases Classical.propComplete (q2 = 0) with h0 | h0 <;> (rw [r_pattern_at (Nat.le_of_ble_eq_true rfl), F_pattern_at]; simp (disch := omega) only [eqs, eqL, ↓gc_len, seval, -List.reduceReplicate, reduceCtorEq, omap, depth, pcall, pureR, freezeFor, freezeAll, tupR, resV, purR, enterTm, number, gcOk, rangeEnd, mkTup, allP, eqM, List.length_map, hz', k0_pattern_at, h', q_pattern_widths, hwd, hfl, q_opinfo_Width, hW, h0]) <;> simp [Term.row, Term.rows_eq, h0, hq]
end S
end Go.AE
/- A pattern at a width, by the reference; At. --M-- -/
namespace Go.AE.S
open Go Go.AE
set_option linter.unusedSimpArgs false
set_option linter.unusedVariables false
variable {τ : Tm} {σ : Store} {rd : Option Nat}

def zT : Term := .mk 0 0 0 (bs []) []
theorem zT_row : zT.row = [.int .i64 0, .int .i64 0, .int .u64 0, .str (bs []), .lst []] := by simp [zT, Term.row, Term.rows]
/-- The pattern and the error. -/
def atE (x : Term × Bool) : List PV := if x.2 = true then [.agg x.1.row, .int .i64 0] else [.agg zT.row, .int .i64 3]
abbrev sR (t : Term) (s : List Term) : Store := [.pv 0 [] false, .av 5 [z5 0] false, .av 5 [[.p (.int .i64 t.op), .p (.int .i64 t.w), .p (.int .u64 t.v), .p (.str t.name), .sl 3 s.length]] false, .pv (esOf 5 s) (s.map Term.row) false]
abbrev e_atR (t : Term) (wd i : Int) : List (Nat × AV) := [(1, .p (.int .i64 wd)), (2, .p (.ptr t.row 0)), (4, .ptr 1 1 0 0), (6, .ptr 2 1 0 0), (7, .p (.int .i64 i))]
def outR (t : Term) (s : List Term) (r : Ex × St) : Prop := r.1 = .ret ∧ r.2.τ.get 4 = .ptr 1 1 0 0 ∧ r.2.τ.get 5 = .p (.int .i64 3) ∧
  r.2.σ = [.pv 0 [] false, .av 5 [z5 4] false, .av 5 [[.p (.int .i64 t.op), .p (.int .i64 t.w), .p (.int .u64 t.v), .p (.str t.name), .sl 3 s.length]] false, .pv (esOf 5 s) (s.map Term.row) false, .pv 0 [] false]
theorem s_r24_at (t : Term) (wd : Int) (hw : -9223372036854775808 ≤ wd ∧ wd ≤ 9223372036854775807) : TOk t → t.count ≤ 1000000 → R P f_r24_at [.agg t.row, .int .i64 wd] = some (.tup (atE (t.atX wd))) := by
  induction t using Term.ind with
  | h t ih =>
  intro ht hc
  have hlen := Term.counts_len t.args
  have hct := Term.count_eq t
  by_cases hz : t.args = []
  · have hz' : ((t.args.length : Nat) : Int) = 0 := by rw [hz]; rfl
    rw [at_leaf wd t hz]
    have hcut := s_r01_Cut wd t.v ht.v
    by_cases h1 : t.w = 0
    · by_cases h2 : t.op = 2
      · (rw [r_r24_at (Nat.le_of_ble_eq_true rfl), F_r24_at]; simp (disch := omega) only [eqs, eqL, ↓gc_len, seval, -List.reduceReplicate, reduceCtorEq, omap, depth, pcall, pureR, freezeFor, freezeAll, tupR, resV, purR, enterTm, number, gcOk, rangeEnd, mkTup, allP, eqM, List.length_map, eq_true hz', eq_true h1, eq_true h2, q_r01_Cut, hcut, h1, h2])
        simp [Term.row, Term.rows, h1, h2, atE]
      · (rw [r_r24_at (Nat.le_of_ble_eq_true rfl), F_r24_at]; simp (disch := omega) only [eqs, eqL, ↓gc_len, seval, -List.reduceReplicate, reduceCtorEq, omap, depth, pcall, pureR, freezeFor, freezeAll, tupR, resV, purR, enterTm, number, gcOk, rangeEnd, mkTup, allP, eqM, List.length_map, eq_true hz', eq_true h1, h2])
        simp [Term.row, Term.rows, h1, h2, atE]
    · (rw [r_r24_at (Nat.le_of_ble_eq_true rfl), F_r24_at]; simp (disch := omega) only [eqs, eqL, ↓gc_len, seval, -List.reduceReplicate, reduceCtorEq, omap, depth, pcall, pureR, freezeFor, freezeAll, tupR, resV, purR, enterTm, number, gcOk, rangeEnd, mkTup, allP, eqM, List.length_map, eq_true hz', h1])
      simp [Term.row, Term.rows, h1, atE]
  · have hz' : ¬ ((t.args.length : Nat) : Int) = 0 := by
      intro h; exact hz (List.length_eq_zero_iff.1 (by omega))
    have h := loop_foldE (P := P) (nt := 77) (rd := none) (lv := [1, 2, 4, 6, 7]) (b := B0_r24_at) (x := 0) (as := t.args) (fun i (_ : List Term) => e_atR t wd i) (sR t) (atS wd)
      (fun s => ⟨upd (upd (upd (upd (upd (tm (e_atR t wd t.args.length)) 32 (.p (.int .i64 t.args.length))) 33 (.p (.ptr t.row 4))) 34 (.p (.lst (t.args.map Term.row)))) 35 (.p (.int .i64 t.args.length))) 36 (.p (.bool false)), sR t s, 77, none⟩) (outR t) (fun i s => s.length = i)
      (fun i a s ha hi hs => by
        have hm := List.mem_of_getElem? ha
        have hac := Term.counts_mem hm
        have hr := ih a hm (ht.args hm) (by omega)
        have hlt : ((i : Int) < t.args.length) = True := by simpa using hi
        unfold atS
        generalize hx : a.atX wd = x at hr
        obtain ⟨x, ok⟩ := x
        cases ok with
        | true =>
          have hap := v_append (σ := sR t s ++ [.pv 5 [x.row] false]) (b := 3) (n := s.length) (e := esOf 5 s) (es := 5) (bytes := 64) (rows := s.map Term.row) (new := [x.row]) rfl (by simp) (esOf_or _ _ _) (by simp only [List.length_cons, List.length_nil]; omega)
          simp only [sR, z5, List.cons_append, List.nil_append] at hap
          simp only [atE, if_true] at hr
          refine ⟨fun s' he => by simp at he; subst he; simp [hs], ?_⟩
          simp only [B0_r24_at]
          simp (disch := omega) only [eqs, eqL, ↓gc_len, seval, -List.reduceReplicate, reduceCtorEq, omap, depth, pcall, pureR, freezeFor, freezeAll, tupR, resV, purR, enterTm, number, gcOk, rangeEnd, mkTup, allP, eqM, hlt, List.length_map, v_iadr (map_get (f := Term.row) ha) a.row_len, q_r24_at, hr, sR, z5, hap, List.map_append, List.length_append, esOf_snoc, e_atR]
        | false =>
          simp only [atE, Bool.false_eq_true, if_false] at hr
          refine ⟨fun s' he => by simp at he, ?_⟩
          simp only [B0_r24_at]
          simp (disch := omega) only [eqs, eqL, ↓gc_len, seval, -List.reduceReplicate, reduceCtorEq, omap, depth, pcall, pureR, freezeFor, freezeAll, tupR, resV, purR, enterTm, number, gcOk, rangeEnd, mkTup, allP, eqM, hlt, List.length_map, v_iadr (map_get (f := Term.row) ha) a.row_len, q_r24_at, hr, sR, z5, outR, e_atR]) (fun s hs => by
        simp only [B0_r24_at]
        simp (disch := omega) only [eqs, eqL, ↓gc_len, seval, -List.reduceReplicate, reduceCtorEq, omap, depth, pcall, pureR, freezeFor, freezeAll, tupR, resV, purR, enterTm, number, gcOk, rangeEnd, mkTup, allP, eqM, Int.lt_irrefl, List.length_map]) (fun i s => rfl) [] (by simp)
    have hf := fold_at wd t.args 0 []
    rw [at_node wd t hz]
    cases hm : Term.atsX wd t.args with
    | none =>
      rw [hm] at hf
      obtain ⟨s', hf⟩ := hf
      rw [hf] at h
      obtain ⟨⟨e, τ', σ', nt', rd'⟩, k1, k2, k3, k4, k5⟩ := h
      simp only at k2 k3 k4 k5
      subst k2; subst k5
      have h' : loopAt P L0_r24_at (e_atR t wd 0) [.pv 0 [] false, .av 5 [z5 0] false, .av 5 [[.p (.int .i64 t.op), .p (.int .i64 t.w), .p (.int .u64 t.v), .p (.str t.name), .sl 3 0]] false, .pv 0 [] false] 77 none = _ := k1
      simp only [z5] at h'
      (rw [r_r24_at (Nat.le_of_ble_eq_true rfl), F_r24_at]; simp (disch := omega) only [eqs, eqL, ↓gc_len, seval, -List.reduceReplicate, reduceCtorEq, omap, depth, pcall, pureR, freezeFor, freezeAll, tupR, resV, purR, enterTm, number, gcOk, rangeEnd, mkTup, allP, eqM, List.length_map, hz', k0_r24_at, h', k3, k4])
      simp [zT_row, atE]
    | some m =>
      rw [hm] at hf
      simp only [List.nil_append] at hf
      rw [hf.1] at h
      have h' : loopAt P L0_r24_at (e_atR t wd 0) [.pv 0 [] false, .av 5 [z5 0] false, .av 5 [[.p (.int .i64 t.op), .p (.int .i64 t.w), .p (.int .u64 t.v), .p (.str t.name), .sl 3 0]] false, .pv 0 [] false] 77 none = _ := h
      simp only [z5, sR] at h'
      have hml : m.length ≤ 1000000 := by omega
      have hne : m.map Term.w ≠ [] := by intro h; exact hz (List.length_eq_zero_iff.1 (by rw [← hf.2, ← List.length_map (f := Term.w), h]; rfl))
      have hwd := s_r24_widths (.mk t.op t.w t.v t.name m) hml
      rw [show (Term.mk t.op t.w t.v t.name m).args = m from rfl] at hwd
      simp only [Term.row, Term.rows_eq] at hwd
      have hfl := flat_ints hne
      have hW := s_r04_Width t.op t.w t.v (m.map Term.w) (by rw [List.length_map]; omega) ht.v
      generalize hq : widthW t.op t.w t.v (m.map Term.w) = q at hW
      obtain ⟨q1, q2⟩ := q
      simp only [two] at hW
      rcases Classical.propComplete (q2 = 0) with h0 | h0
      · (rw [r_r24_at (Nat.le_of_ble_eq_true rfl), F_r24_at]; simp (disch := omega) only [eqs, eqL, ↓gc_len, seval, -List.reduceReplicate, reduceCtorEq, omap, depth, pcall, pureR, freezeFor, freezeAll, tupR, resV, purR, enterTm, number, gcOk, rangeEnd, mkTup, allP, eqM, List.length_map, hz', k0_r24_at, h', q_r24_widths, hwd, hfl, q_r04_Width, hW, h0])
        simp [Term.row, Term.rows_eq, h0, hq, atE]
      · (rw [r_r24_at (Nat.le_of_ble_eq_true rfl), F_r24_at]; simp (disch := omega) only [eqs, eqL, ↓gc_len, seval, -List.reduceReplicate, reduceCtorEq, omap, depth, pcall, pureR, freezeFor, freezeAll, tupR, resV, purR, enterTm, number, gcOk, rangeEnd, mkTup, allP, eqM, List.length_map, hz', k0_r24_at, h', q_r24_widths, hwd, hfl, q_r04_Width, hW, h0])
        simp [zT_row, h0, hq, atE]
theorem s_pattern_At (t : Term) (wd : Int) (hw : -9223372036854775808 ≤ wd ∧ wd ≤ 9223372036854775807) (ht : TOk t) (hc : t.count ≤ 1000000) :
    R P f_pattern_At [.agg t.row, .int .i64 wd] = some (.tup (if 1 ≤ wd ∧ wd ≤ 64 then atE (t.atX wd) else [.agg zT.row, .int .i64 2])) := by
  by_cases h1 : wd < 1
  · rw [if_neg (by omega)]
    (rw [r_pattern_At (Nat.le_of_ble_eq_true rfl), F_pattern_At]; simp (disch := omega) only [eqs, eqL, ↓gc_len, seval, -List.reduceReplicate, reduceCtorEq, omap, depth, pcall, pureR, freezeFor, freezeAll, tupR, resV, purR, enterTm, number, gcOk, rangeEnd, mkTup, allP, eqM, h1])
    simp [zT_row]
  by_cases h2 : (64 : Int) < wd
  · rw [if_neg (by omega)]
    (rw [r_pattern_At (Nat.le_of_ble_eq_true rfl), F_pattern_At]; simp (disch := omega) only [eqs, eqL, ↓gc_len, seval, -List.reduceReplicate, reduceCtorEq, omap, depth, pcall, pureR, freezeFor, freezeAll, tupR, resV, purR, enterTm, number, gcOk, rangeEnd, mkTup, allP, eqM, h1, h2])
    simp [zT_row]
  rw [if_pos (by omega)]
  have hr := s_pattern_at t wd hw ht hc
  generalize t.atX wd = x at hr
  obtain ⟨x, ok⟩ := x
  cases ok with
  | true =>
    (rw [r_pattern_At (Nat.le_of_ble_eq_true rfl), F_pattern_At]; simp (disch := omega) only [eqs, eqL, ↓gc_len, seval, -List.reduceReplicate, reduceCtorEq, omap, depth, pcall, pureR, freezeFor, freezeAll, tupR, resV, purR, enterTm, number, gcOk, rangeEnd, mkTup, allP, eqM, h1, h2, q_pattern_at, hr])
    simp [atE]
  | false =>
    (rw [r_pattern_At (Nat.le_of_ble_eq_true rfl), F_pattern_At]; simp (disch := omega) only [eqs, eqL, ↓gc_len, seval, -List.reduceReplicate, reduceCtorEq, omap, depth, pcall, pureR, freezeFor, freezeAll, tupR, resV, purR, enterTm, number, gcOk, rangeEnd, mkTup, allP, eqM, h1, h2, q_pattern_at, hr])
    simp [atE, zT_row]
theorem s_r24_At (t : Term) (wd : Int) (hw : -9223372036854775808 ≤ wd ∧ wd ≤ 9223372036854775807) (ht : TOk t) (hc : t.count ≤ 1000000) :
    R P f_r24_At [.agg t.row, .int .i64 wd] = some (.tup (if 1 ≤ wd ∧ wd ≤ 64 then atE (t.atX wd) else [.agg zT.row, .int .i64 2])) := by
  by_cases h1 : wd < 1
  · rw [if_neg (by omega)]
    (rw [r_r24_At (Nat.le_of_ble_eq_true rfl), F_r24_At]; simp (disch := omega) only [eqs, eqL, ↓gc_len, seval, -List.reduceReplicate, reduceCtorEq, omap, depth, pcall, pureR, freezeFor, freezeAll, tupR, resV, purR, enterTm, number, gcOk, rangeEnd, mkTup, allP, eqM, h1])
    simp [zT_row]
  by_cases h2 : (64 : Int) < wd
  · rw [if_neg (by omega)]
    (rw [r_r24_At (Nat.le_of_ble_eq_true rfl), F_r24_At]; simp (disch := omega) only [eqs, eqL, ↓gc_len, seval, -List.reduceReplicate, reduceCtorEq, omap, depth, pcall, pureR, freezeFor, freezeAll, tupR, resV, purR, enterTm, number, gcOk, rangeEnd, mkTup, allP, eqM, h1, h2])
    simp [zT_row]
  rw [if_pos (by omega)]
  have hr := s_r24_at t wd hw ht hc
  generalize t.atX wd = x at hr
  obtain ⟨x, ok⟩ := x
  cases ok with
  | true =>
    simp only [atE, if_true] at hr
    (rw [r_r24_At (Nat.le_of_ble_eq_true rfl), F_r24_At]; simp (disch := omega) only [eqs, eqL, ↓gc_len, seval, -List.reduceReplicate, reduceCtorEq, omap, depth, pcall, pureR, freezeFor, freezeAll, tupR, resV, purR, enterTm, number, gcOk, rangeEnd, mkTup, allP, eqM, h1, h2, q_r24_at, hr])
    all_goals simp [atE]
  | false =>
    simp only [atE, Bool.false_eq_true, if_false] at hr
    (rw [r_r24_At (Nat.le_of_ble_eq_true rfl), F_r24_At]; simp (disch := omega) only [eqs, eqL, ↓gc_len, seval, -List.reduceReplicate, reduceCtorEq, omap, depth, pcall, pureR, freezeFor, freezeAll, tupR, resV, purR, enterTm, number, gcOk, rangeEnd, mkTup, allP, eqM, h1, h2, q_r24_at, hr])
    all_goals simp [atE]
end Go.AE.S
