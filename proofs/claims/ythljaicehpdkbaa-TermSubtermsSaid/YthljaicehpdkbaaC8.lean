/- The reference's subterms; subterms of valid terms. --M-- -/
import Derived.Test.YthljaicehpdkbaaC7
namespace Go.AE.S
open Go Go.AE
set_option linter.unusedSimpArgs false
set_option linter.unusedVariables false
variable {τ : Tm} {σ : Store} {rd : Option Nat}
theorem fold_any (q : Term → Bool) : ∀ (l : List Term) (i : Nat), foldE (S := Unit) (T := Unit) (fun _ _ a => if q a = true then .inr () else .inl ()) i () l = if l.any q = true then .inr () else .inl ()
  | [], i => rfl
  | a :: l, i => by
    unfold foldE
    by_cases h : q a = true
    · simp [h]
    · simp only [h, List.any_cons, Bool.false_or]
      exact fold_any q l (i + 1)
abbrev e_has (l : List Term) (u : Term) (i : Int) : List (Nat × AV) := [(0, .p (.lst (l.map Term.row))), (3, .p (.ptr u.row 0)), (5, .p (.int .i64 i))]
theorem s_r06_Has (l : List Term) (u : Term) (hl : l.length ≤ 1000000) (ht : ∀ a ∈ l, TOk a) : R P f_r06_Has [.lst (l.map Term.row), .agg u.row] = some (.bool (l.any fun a => a.beq u)) := by
  have h := loop_to (P := P) (nt := 18) (lv := [0, 3, 5]) (b := B0_r06_Has) (rd := none) (as := l) (fun i (_ : Unit) => e_has l u i) (fun _ => []) (fun _ _ a => if a.beq u = true then .inr () else .inl ()) (fun (_ : Unit) => ret1 4 (.bool true) []) (fun _ _ => True)
    (fun i a s ha hi hs => by
      refine ⟨fun _ _ => trivial, ?_⟩
      have hlt : ((i : Int) < l.length) = True := by simpa using hi
      have hx := fun σ => v_iadr (k := .i64) (es := 5) (σ := σ) (map_get (f := Term.row) ha) a.row_len
      have hr := s_r06_Same a (ht a (List.mem_of_getElem? ha)) u
      cases hb : a.beq u <;> rw [hb] at hr <;> simp only [B0_r06_Has] <;> simp (disch := omega) only [eqs, eqL, ↓gc_len, seval, -List.reduceReplicate, reduceCtorEq, omap, depth, pcall, pureR, freezeFor, freezeAll, tupR, resV, purR, enterTm, number, gcOk, rangeEnd, mkTup, allP, eqM, hlt, hx, q_r06_Same, hr, List.length_map, e_has, ret1]) (fun i s => rfl) () trivial
  rw [fold_any (fun a => a.beq u)] at h
  cases hany : l.any fun a => a.beq u with
  | true =>
    rw [hany, if_pos rfl] at h
    obtain ⟨⟨e, τ', σ', nt', rd'⟩, g1, g2, g3, g4⟩ := h
    simp only at g2 g3 g4
    subst g2; subst g4
    have h' : loopAt P L0_r06_Has (e_has l u 0) [] 18 none = some (.ret, ⟨τ', [], nt', rd'⟩) := g1
    simp only [e_has] at h'
    (rw [r_r06_Has (Nat.le_of_ble_eq_true rfl), F_r06_Has]; simp (disch := omega) only [eqs, eqL, ↓gc_len, seval, -List.reduceReplicate, reduceCtorEq, omap, depth, pcall, pureR, freezeFor, freezeAll, tupR, resV, purR, enterTm, number, gcOk, rangeEnd, mkTup, allP, eqM, k0_r06_Has, h', g3])
  | false =>
    rw [hany, if_neg (by simp)] at h
    obtain ⟨_, h⟩ := h
    have h' : loopAt P L0_r06_Has (e_has l u 0) [] 18 none = _ := h
    simp only [e_has] at h'
    (rw [r_r06_Has (Nat.le_of_ble_eq_true rfl), F_r06_Has]; simp (disch := omega) only [eqs, eqL, ↓gc_len, seval, -List.reduceReplicate, reduceCtorEq, omap, depth, pcall, pureR, freezeFor, freezeAll, tupR, resV, purR, enterTm, number, gcOk, rangeEnd, mkTup, allP, eqM, k0_r06_Has, h', B0_r06_Has, Int.lt_irrefl, List.length_map])
theorem beq_comm (a b : Term) : a.beq b = b.beq a := by
  cases h : b.beq a with
  | true => rw [(Term.beq_iff b a).1 h]; exact (Term.beq_iff a a).2 rfl
  | false =>
    cases h' : a.beq b with
    | false => rfl
    | true => rw [(Term.beq_iff a b).1 h', (Term.beq_iff b b).2 rfl] at h; cases h
abbrev e_rsb (T s : List Term) (i : Int) : List (Nat × AV) := [(3, .sl 0 s.length), (4, .p (.lst (T.map Term.row))), (5, .p (.int .i64 i))]
set_option maxHeartbeats 4000000 in
theorem s_r06_Subterms (t : Term) (ht : TOk t) (hc : t.count ≤ 1000000) : R P f_r06_Subterms [.agg t.row] = some (.lst ((t.post.foldl addS []).map Term.row)) := by
  have hp := s_r06_Post t hc
  have hpl := Term.post_len t
  obtain ⟨⟨hk, hm⟩, h⟩ := loop_run (P := P) (nt := 29) (lv := [3, 4, 5]) (b := B0_r06_Subterms) (rd := none) (as := t.post) (fun i (s : List Term) => e_rsb t.post s i) sT0 (fun _ s a => addS s a) (fun i s => s.length ≤ i ∧ ∀ a ∈ s, a ∈ t.post)
    (fun i a s ha hi hs => by
      have hm := List.mem_of_getElem? ha
      have hr := s_r06_Has s a (by omega) (fun b hb => post_TOk ht b (hs.2 b hb))
      have he : (s.any fun b => b.beq a) = s.any a.beq := by congr 1; funext b; exact beq_comm b a
      rw [he] at hr
      have hlt : ((i : Int) < t.post.length) = True := by simpa using hi
      have hap := v_append (σ := [.pv (esOf 5 s) (s.map Term.row) false, .pv 5 [a.row] false]) (b := 0) (n := s.length) (e := esOf 5 s) (es := 5) (bytes := 64) (rows := s.map Term.row) (new := [a.row]) rfl (by simp) (esOf_or _ _ _) (by simp only [List.length_cons, List.length_nil]; omega)
      have hal := addS_len (s := s) (u := a)
      have hx := fun σ => v_iadr (k := .i64) (es := 5) (σ := σ) (map_get (f := Term.row) ha) a.row_len
      refine ⟨⟨by omega, fun b hb => ?_⟩, ?_⟩
      · unfold addS at hb
        split at hb
        · exact hs.2 b hb
        · rcases List.mem_append.1 hb with hb | hb
          · exact hs.2 b hb
          · rw [List.mem_singleton] at hb; rw [hb]; exact hm
      · unfold addS
        cases hb : s.any a.beq with
        | true =>
          rw [hb] at hr
          simp only [B0_r06_Subterms, if_true]
          simp (disch := omega) only [eqs, eqL, ↓gc_len, seval, -List.reduceReplicate, reduceCtorEq, omap, depth, pcall, pureR, freezeFor, freezeAll, tupR, resV, purR, enterTm, number, gcOk, rangeEnd, mkTup, allP, eqM, hlt, hx, q_r06_Has, hr, List.length_map, e_rsb, sT0]
        | false =>
          rw [hb] at hr
          simp only [B0_r06_Subterms, Bool.false_eq_true, if_false]
          simp (disch := omega) only [eqs, eqL, ↓gc_len, seval, -List.reduceReplicate, reduceCtorEq, omap, depth, pcall, pureR, freezeFor, freezeAll, tupR, resV, purR, enterTm, number, gcOk, rangeEnd, mkTup, allP, eqM, hlt, hx, q_r06_Has, hr, List.length_map, bsl_1t, hap, List.length_append, List.map_append, e_rsb, sT0, esOf_snoc]) (fun i s => rfl) [] ⟨by simp, by simp⟩ _ (foldE_foldl _ t.post 0 [])
  have h' : loopAt P L0_r06_Subterms [(3, .sl 0 0), (4, .p (.lst (t.post.map Term.row))), (5, .p (.int .i64 0))] [.pv 0 [] false] 29 none = _ := h
  (rw [r_r06_Subterms (Nat.le_of_ble_eq_true rfl), F_r06_Subterms]; simp (disch := omega) only [eqs, eqL, ↓gc_len, seval, -List.reduceReplicate, reduceCtorEq, omap, depth, pcall, pureR, freezeFor, freezeAll, tupR, resV, purR, enterTm, number, gcOk, rangeEnd, mkTup, allP, eqM, q_r06_Post, hp, k0_r06_Subterms, h', B0_r06_Subterms, Int.lt_irrefl, List.length_map, e_rsb, sT0])
/-! ### conflicts, plainly -/
theorem cfl_self (u : Term) : cfl u u = false := by simp [cfl]
theorem cfl_comm (u v : Term) : cfl u v = cfl v u := by
  unfold cfl; simp only [decide_eq_decide]; constructor <;> (rintro ⟨h1, h2, h3, h4⟩; exact ⟨h2, h1, h3.symm, fun e => h4 e.symm⟩)
theorem outG_ex : ∀ (r p : List Term), outG p r = true → ∃ u ∈ r, ∃ b ∈ p ++ r, cfl u b = true
  | [], p, h => by simp [outG] at h
  | u :: r, p, h => by
    simp only [outG, Bool.or_eq_true] at h
    rcases h with h | h
    · obtain ⟨b, hb, hc⟩ := List.any_eq_true.1 h
      exact ⟨u, by simp, b, by simp [hb], hc⟩
    · obtain ⟨v, hv, b, hb, hc⟩ := outG_ex r (p ++ [u]) h
      exact ⟨v, by simp [hv], b, by simpa using hb, hc⟩
theorem outG_no : ∀ (r p : List Term), outG p r = false → ∀ u ∈ r, ∀ b ∈ p ++ r, cfl u b = false
  | [], p, h, u, hu => by simp at hu
  | x :: r, p, h, u, hu => by
    simp only [outG, Bool.or_eq_false_iff] at h
    have ih := outG_no r (p ++ [x]) h.2
    have hx : ∀ b ∈ p ++ x :: r, cfl x b = false := by
      intro b hb
      rcases List.mem_append.1 hb with hb | hb
      · simpa using List.any_eq_false.1 h.1 b hb
      · rcases List.mem_cons.1 hb with rfl | hb
        · exact cfl_self b
        · rw [cfl_comm]; exact ih b hb x (by simp)
    rcases List.mem_cons.1 hu with rfl | hu
    · exact hx
    · intro b hb
      exact ih u hu b (by simpa using hb)
theorem post_sub {t u : Term} (hu : u ∈ t.post) : ∀ a ∈ u.post, a ∈ t.post := by
  have key : ∀ t : Term, ∀ u ∈ t.pre, ∀ a ∈ u.pre, a ∈ t.pre := by
    intro t
    induction t using Term.ind with
    | h t ih =>
    intro u hu a ha
    rcases mem_pre.1 hu with rfl | ⟨b, hb, hub⟩
    · exact ha
    · exact mem_pre.2 (.inr ⟨b, hb, ih b hb u hub a ha⟩)
  intro a ha
  exact (mem_post t a).2 (key t u ((mem_post t u).1 hu) a ((mem_post u a).1 ha))
theorem post_deep {t : Term} : ∀ a ∈ t.post, a.deep ≤ t.deep := by
  have key : ∀ t : Term, ∀ a ∈ t.pre, a.deep ≤ t.deep := by
    intro t
    induction t using Term.ind with
    | h t ih =>
    intro a ha
    rcases mem_pre.1 ha with rfl | ⟨b, hb, hab⟩
    · exact Nat.le_refl _
    · have h1 := ih b hb a hab
      have h2 : ∀ l : List Term, b ∈ l → b.deep ≤ Term.deeps l := by
        intro l
        induction l with
        | nil => intro h; simp at h
        | cons c l ihl =>
          intro h
          simp only [Term.deeps]
          rcases List.mem_cons.1 h with rfl | h
          · omega
          · have := ihl h; omega
      have h3 := Term.deep_eq t
      have := h2 t.args hb
      omega
  intro a ha
  exact key t a ((mem_post t a).1 ha)
theorem check_sub {t u : Term} (h : checkT t = 0) (hu : u ∈ t.post) : checkT u = 0 := by
  unfold checkT at h ⊢
  split at h
  · rename_i hb
    have hd := post_deep u hu
    have hn := post_count u hu
    rw [if_pos ⟨by omega, by omega⟩, ckE_eq]
    rw [ckE_eq] at h
    split at h
    · rename_i h0; exact absurd h h0
    · rename_i h0
      have h0 := Classical.not_not.1 h0
      split at h
      · cases h
      · rename_i ho
        have ho := outG_no t.post [] (by simpa using ho)
        have hz : firstN u.post = 0 := by
          have key : ∀ l : List Term, (∀ a ∈ l, nodeN a = 0) → firstN l = 0 := by
            intro l
            induction l with
            | nil => intro _; rfl
            | cons a l ih => intro hl; simp only [firstN]; rw [if_pos (hl a (by simp))]; exact ih fun b hb => hl b (by simp [hb])
          exact key _ fun a ha => firstN_zero h0 a (post_sub hu a ha)
        rw [if_neg (fun h' => h' hz), if_neg]
        intro hx
        obtain ⟨a, ha, b, hb', hc⟩ := outG_ex u.post [] hx
        rw [ho a (post_sub hu a ha) b (by simpa using post_sub hu b (by simpa using hb'))] at hc
        cases hc
  · cases h
end Go.AE.S
/- The law of subterms. --M-- -/
namespace Go.AE.S
open Go Go.AE
set_option linter.unusedSimpArgs false
set_option linter.unusedVariables false
variable {τ : Tm} {σ : Store} {rd : Option Nat}
theorem ob1_pur (k : Nat) (s : List Term) (c : Obj) (r : Store) : purify (c :: obT s :: r) (k + 2) (.sl 1 s.length) = some (.lst (s.map Term.row)) := by
  have hrow : ∀ (σ : Store) (ps : List PV), omap (purify σ (k + 1)) (ps.map AV.p) = some ps := by
    intro σ ps
    induction ps with
    | nil => rfl
    | cons a r ih => simp only [List.map_cons, omap, purify_p, ih]
  have hrows : ∀ (σ : Store) (l : List Term), omap (omap (purify σ (k + 1))) (avT l) = some (l.map Term.row) := by
    intro σ l
    induction l with
    | nil => rfl
    | cons a r ih =>
      have ih' : omap (omap (purify σ (k + 1))) (r.map fun a => a.row.map AV.p) = some (r.map Term.row) := ih
      simp only [avT, List.map_cons, omap, hrow, ih']
  unfold obT
  split
  · rw [show purify (c :: .pv (esOf 5 s) (s.map Term.row) false :: r) (k + 2) (.sl 1 s.length) = (if (s.map Term.row).length = s.length then some (.lst (s.map Term.row)) else none) from rfl]
    rw [if_pos (by simp)]
  · rw [show purify (c :: .av 5 (avT s) false :: r) (k + 2) (.sl 1 s.length) = (if (avT s).length = s.length then (omap (omap (purify (c :: .av 5 (avT s) false :: r) (k + 1))) (avT s)).map .lst else none) from rfl]
    rw [if_pos (by simp), hrows]
    rfl
theorem ob1_app (s : List Term) (c : Obj) (r : Store) (h : s.length ≤ 1000000) : appendV (c :: obT s :: r) 5 64 (.sl 1 s.length) (some (.inr [zA])) = some (.sl 1 (s.length + 1), c :: .av 5 (avT s ++ [zA]) false :: r) := by
  have hb : (s.length + Src.count (Sum.inr [zA])) * 64 ≤ 140737488355328 := by simp only [Src.count, List.length_cons, List.length_nil]; omega
  simp only [appendV, appendRows, List.getElem?_cons_succ, List.getElem?_cons_zero, obT_len, hb, and_self, if_true, obT_join, Option.map_some, List.set_cons_succ, List.set_cons_zero]
  rfl
theorem ob1_ia (s : List Term) (c : Obj) (r : Store) : iadrSV (c :: .av 5 (avT s ++ [zA]) false :: r) 5 (.sl 1 (s.length + 1)) (.p (.int .i64 s.length)) = some (.ptr 1 (s.length + 1) s.length 0) := by
  rw [← objM_z]
  exact ia_M rfl (by simp) (by omega)
theorem ob1_st (s : List Term) (u : Term) (c : Obj) (r : Store) : stO (c :: .av 5 (avT s ++ [zA]) false :: r) 1 (s.length + 1) s.length 0 (u.row.map AV.p) (some (.av 5 (avT s ++ [zA]) false)) = some (c :: obT (s ++ [u]) :: r) := by
  have h := st_M (σ := c :: .av 5 (avT s ++ [zA]) false :: r) (b := 1) (m := s.length + 1) (j := s.length) (rows := avT s ++ [zA]) (ps := u.row) (by simp) (by omega) (fun x hx => by
    rcases List.mem_append.1 hx with hx | hx
    · obtain ⟨a, _, rfl⟩ := List.mem_map.1 hx
      rw [List.length_map]; exact a.row_len
    · rw [List.mem_singleton] at hx
      subst hx
      rfl) u.row_len
  rw [objM_z] at h
  rw [h, obT_M]
  have e : (avT s ++ [zA]).set s.length (u.row.map AV.p) = avT (s ++ [u]) := by
    have : s.length = (avT s).length := by simp
    rw [this, List.set_append_right _ _ (Nat.le_refl _)]
    simp [avT]
  rw [e]
  rfl
theorem ob1_len (s : List Term) (c : Obj) (r : Store) : lenSV (c :: obT s :: r) (.sl 1 s.length) = some (.p (.int .i64 s.length)) := by
  have h : slen (c :: obT s :: r) 1 = some s.length := obT_len s
  simp [lenSV, lenS, h]
abbrev cB : Obj := .pv 1 [[.bool false]] false
abbrev sCb (s : List Term) : Store := [cB, obT s, .av 1 [[.sl 1 s.length]] false]
theorem gc_55 {vs : List AV} {a b c d e : Obj} : gc 5 vs [a, b, c, d, e] = [a, b, c, d, e] := gc_same' (by simp)
theorem gc_56 {vs : List AV} {a b c d e f : Obj} : gc 5 vs [a, b, c, d, e, f] = if gcOk 5 vs [a, b, c, d, e, f] = true then [a, b, c, d, e] else [a, b, c, d, e, f] := by unfold gc; rw [if_neg (by simp)]; rfl
theorem gc_66' {vs : List AV} {a b c d e f : Obj} : gc 6 vs [a, b, c, d, e, f] = [a, b, c, d, e, f] := gc_same' (by simp)
theorem src_5 {o0 o1 o2 o3 o4 : Obj} : srcOf [o0, o1, o2, o3, o4, .av 5 [zA] false] 5 (.sl 5 1) = some (.inr [zA]) := rfl
set_option maxHeartbeats 8000000 in
theorem rg0_Sub (t : Term) (hc : t.count ≤ 60) : rangeR P [24] A0_law06_TermSubterms B0_law06_TermSubterms (.p (.fn f_term_All_1 [.ptr t.row 0])) [(2, .ptr 0 1 0 0), (6, .ptr 2 1 0 0)] (sCb []) 79 none =
    some (rangeEnd sCb (fun x : Empty => nomatch x) (foldE (fun i s u => .inl (s ++ [u])) 0 [] t.post)) := by
  refine range_post (rd := none) (kept := [(2, .ptr 0 1 0 0), (6, .ptr 2 1 0 0)]) (ps := [24]) (asg := A0_law06_TermSubterms) (b := B0_law06_TermSubterms) (nt := 79) t (by omega) ⟨rfl, rfl⟩ sCb (fun i s u => .inl (s ++ [u])) (fun x : Empty => nomatch x)
    (fun i s => s.length = i) [] rfl (fun _ => rfl) (fun x => nomatch x) (fun s m hm => ?_) (fun x => nomatch x) (by simp [below]) (fun x => nomatch x) (fun i u s ha hs => ?_) rfl
  · have : (1 : Nat) < m := by have : (3 : Nat) ≤ m := hm; omega
    simp only [sCb, List.all_cons, List.all_nil, obT_below, obj_belowA, obj_below, below, this, decide_true]; rfl
  · have hil := (List.getElem?_eq_some_iff.1 ha).1
    rw [Term.post_len] at hil
    refine ⟨fun s' he => by cases he; simp [hs], ?_⟩
    simp only [sCb, List.cons_append, List.nil_append]
    rw [round_go rfl ⟨rfl, rfl, rfl⟩]
    have hL := fun (c : Obj) (r : Store) => ob1_len s c r
    have hL2 := fun (c : Obj) (r : Store) => ob1_len (s ++ [u]) c r
    have hA := fun (c : Obj) (r : Store) => ob1_app s c r (by omega)
    have hS := fun (c : Obj) (r : Store) => ob1_st s u c r
    have hI := fun (c : Obj) (r : Store) => ob1_ia s c r
    have hB := fun (n : Nat) (s : List Term) => obT_below n s
    rw [List.length_append, List.length_singleton] at hL2
    have hgt : ((((s.length + 1 : Nat) : Int)) > 60) = False := by simp; omega
    simp only [A0_law06_TermSubterms, B0_law06_TermSubterms]
    simp (disch := omega) only [eqs, eqL, ↓gc_len, seval, -List.reduceReplicate, reduceCtorEq, omap, depth, pcall, pureR, freezeFor, freezeAll, tupR, resV, purR, enterTm, number, gcOk, rangeEnd, mkTup, allP, eqM, List.length_map, List.length_append, mkFn, gc_55, gc_56, regD_go, regD_some, regOk, apartOk, pureRead, blkOf, noNils, Bool.false_or, Bool.or_self, Bool.or_true, Bool.or_false, hL, hL2, hgt, bs_z, src_5, hA, hI, hS, hB]
end Go.AE.S
/- The law of subterms, joined. --M-- -/
namespace Go.AE.S
open Go Go.AE
set_option linter.unusedSimpArgs false
set_option linter.unusedVariables false
variable {τ : Tm} {σ : Store} {rd : Option Nat}
abbrev sCn (l : List Term) (n : Nat) : Store := [cB, obT l, .av 1 [[.sl 1 l.length]] false, .pv 1 [[.int .i64 n]] false]
def twoF (_ : Nat) (n : Nat) (_ : Term) : Nat ⊕ Unit := if n + 1 = 2 then .inr () else .inl (n + 1)
theorem st_n3 {a b c : Obj} {k k' : IntKind} {v w : Int} {r : Store} : stO (a :: b :: c :: .pv 1 [[.int k w]] false :: r) 3 1 0 0 [.p (.int k' v)] (some (.pv 1 [[.int k w]] false)) = some (a :: b :: c :: .pv 1 [[.int k' v]] false :: r) := rfl
theorem w_i1 : IntKind.i64.wrap 1 = 1 := by decide
theorem w_i2 : IntKind.i64.wrap 2 = 2 := by decide
abbrev kR1 (t : Term) (S : List Term) : List (Nat × AV) := [(1, .p (.ptr t.row 0)), (2, .ptr 0 1 0 0), (6, .ptr 2 1 0 0), (8, .p (.lst (S.map Term.row))), (9, .ptr 3 1 0 0)]
set_option maxHeartbeats 8000000 in
theorem rg1_Sub (t : Term) (hc : t.count ≤ 60) (l S : List Term) : rangeR P [49] A1_law06_TermSubterms B1_law06_TermSubterms (.p (.fn f_term_All_1 [.ptr t.row 0])) (kR1 t S) (sCn l 0) 79 none =
    some (rangeEnd (sCn l) (fun _ : Unit => (.exit 2, sCn l 2)) (foldE twoF 0 0 t.post)) := by
  refine range_post (rd := none) (kept := kR1 t S) (ps := [49]) (asg := A1_law06_TermSubterms) (b := B1_law06_TermSubterms) (nt := 79) t (by omega) ⟨rfl, rfl⟩ (sCn l) twoF (fun _ : Unit => (.exit 2, sCn l 2))
    (fun i s => s ≤ 1) 0 rfl (fun _ => rfl) (fun x => rfl) (fun s m hm => ?_) (fun x m hm => ?_) (by simp [below]) (fun x => by simp) (fun i u s ha hs => ?_) (by omega)
  · have : (1 : Nat) < m := by have : (4 : Nat) ≤ m := hm; omega
    simp only [sCn, List.all_cons, List.all_nil, obT_below, obj_belowA, obj_below, below, this, decide_true]; rfl
  · have : (1 : Nat) < m := by have : (4 : Nat) ≤ m := hm; omega
    simp only [sCn, List.all_cons, List.all_nil, obT_below, obj_belowA, obj_below, below, this, decide_true]; rfl
  · refine ⟨fun s' he => ?_, ?_⟩
    · unfold twoF at he
      split at he
      · cases he
      · cases he; omega
    · simp only [sCn, List.cons_append, List.nil_append]
      rw [round_go rfl ⟨rfl, rfl, rfl⟩]
      have h2 : s = 0 ∨ s = 1 := by omega
      unfold twoF
      rcases h2 with rfl | rfl
      · simp only [A1_law06_TermSubterms, B1_law06_TermSubterms]
        simp (disch := omega) only [eqs, eqL, ↓gc_len, seval, -List.reduceReplicate, reduceCtorEq, omap, depth, pcall, pureR, freezeFor, freezeAll, tupR, resV, purR, enterTm, number, gcOk, rangeEnd, mkTup, allP, eqM, ld_ci, st_n3, gc_66', w_i1, w_i2]
      · simp only [A1_law06_TermSubterms, B1_law06_TermSubterms]
        simp (disch := omega) only [eqs, eqL, ↓gc_len, seval, -List.reduceReplicate, reduceCtorEq, omap, depth, pcall, pureR, freezeFor, freezeAll, tupR, resV, purR, enterTm, number, gcOk, rangeEnd, mkTup, allP, eqM, ld_ci, st_n3, gc_66', w_i1, w_i2]
theorem two_fold : ∀ l : List Term, foldE twoF 0 0 l = if 2 ≤ l.length then .inr () else .inl l.length
  | [] => rfl
  | [a] => rfl
  | a :: b :: l => by
    have : 2 ≤ (a :: b :: l).length := by simp
    rw [if_pos this]
    rfl
abbrev e_l2 (t : Term) (S : List Term) (i : Int) : List (Nat × AV) := [(1, .p (.ptr t.row 0)), (2, .ptr 0 1 0 0), (6, .ptr 2 1 0 0), (8, .p (.lst (S.map Term.row))), (9, .ptr 3 1 0 0), (10, .p (.int .i64 i))]
set_option maxHeartbeats 4000000 in
theorem l2_Sub (t : Term) (ht : TOk t) (hc : t.count ≤ 60) (S : List Term) (hS : ∀ a ∈ S, a ∈ t.post) (hl : S.length ≤ 1000000) (h0 : checkT t = 0) (σ : Store) : loopAt P L2_law06_TermSubterms (e_l2 t S 0) σ 79 none = back P [1, 2, 6, 8, 9, 10] B2_law06_TermSubterms σ.length (exec P B2_law06_TermSubterms ⟨tm (e_l2 t S S.length), σ, 79, none⟩) := by
  obtain ⟨_, h⟩ := loop_run (P := P) (nt := 79) (lv := [1, 2, 6, 8, 9, 10]) (b := B2_law06_TermSubterms) (rd := none) (as := S) (fun i (_ : Unit) => e_l2 t S i) (fun _ => σ) (fun _ _ _ => ()) (fun _ _ => True)
    (fun i a s ha hi hs => by
      refine ⟨trivial, ?_⟩
      have hlt : ((i : Int) < S.length) = True := by simpa using hi
      have hm := hS a (List.mem_of_getElem? ha)
      have hx := fun σ => v_iadr (k := .i64) (es := 5) (σ := σ) (map_get (f := Term.row) ha) a.row_len
      have k1 := s_r06_Check t ht (by omega)
      have k2 := s_term_Check a (post_TOk ht a hm) (by have := post_count a hm; omega)
      rw [h0] at k1
      rw [check_sub h0 hm] at k2
      simp only [B2_law06_TermSubterms]
      simp (disch := omega) only [eqs, eqL, ↓gc_len, seval, -List.reduceReplicate, reduceCtorEq, omap, depth, pcall, pureR, freezeFor, freezeAll, tupR, resV, purR, enterTm, number, gcOk, rangeEnd, mkTup, allP, eqM, hlt, hx, q_r06_Check, k1, q_term_Check, k2, List.length_map, e_l2]) (fun i s => rfl) () trivial () (foldE_foldl _ S 0 ())
  exact h
theorem l2_none (t : Term) (S : List Term) (σ : Store) : loopAt P L2_law06_TermSubterms (e_l2 t S 0) σ 79 none = back P [1, 2, 6, 8, 9, 10] B2_law06_TermSubterms σ.length (exec P B2_law06_TermSubterms ⟨tm (e_l2 t S 0), σ, 79, none⟩) := by
  obtain ⟨_, h⟩ := loop_run (P := P) (nt := 79) (lv := [1, 2, 6, 8, 9, 10]) (b := B2_law06_TermSubterms) (rd := none) (as := ([] : List Unit)) (fun i (_ : Unit) => e_l2 t S i) (fun _ => σ) (fun _ _ _ => ()) (fun _ _ => True)
    (fun i a s ha hi hs => by simp at hi) (fun i s => rfl) () trivial () rfl
  exact h
theorem subs_mem {l s : List Term} {a : Term} : a ∈ l.foldl addS s → a ∈ s ∨ a ∈ l := by
  induction l generalizing s with
  | nil => exact .inl
  | cons u l ih =>
    intro h
    rcases ih h with h | h
    · unfold addS at h
      split at h
      · exact .inl h
      · rcases List.mem_append.1 h with h | h
        · exact .inl h
        · rw [List.mem_singleton] at h; exact .inr (by rw [h]; simp)
    · exact .inr (by simp [h])
theorem subs_len {l s : List Term} : (l.foldl addS s).length ≤ s.length + l.length := by
  induction l generalizing s with
  | nil => simp
  | cons u l ih =>
    have h1 := ih (s := addS s u)
    have h2 := addS_len (s := s) (u := u)
    simp only [List.foldl_cons, List.length_cons]
    omega
theorem subs_pos {l s : List Term} (h : 0 < s.length) : 0 < (l.foldl addS s).length := by
  induction l generalizing s with
  | nil => exact h
  | cons u l ih =>
    refine ih ?_
    unfold addS
    split
    · exact h
    · simp
theorem v_isnfn {b : Bool} {f : FuncId} {l : List PV} : isnilV b (.p (.fn f l)) = some (.p (.bool b)) := rfl
set_option maxHeartbeats 8000000 in
theorem p_TermSubterms (t : Term) (ht : TOk t) : R P f_law06_TermSubterms [.agg t.row] = some (.bool true) := by
  have hv := s_l06
  have hL := s_r06_Light t ht 40 60 (by omega) (by omega)
  unfold lightV at hL
  by_cases hb : (t.deep : Int) ≤ 40 ∧ (t.count : Int) ≤ 60
  rotate_left
  · rw [if_neg hb] at hL
    (rw [r_law06_TermSubterms (Nat.le_of_ble_eq_true rfl), F_law06_TermSubterms]; simp (disch := omega) only [eqs, eqL, ↓gc_len, seval, -List.reduceReplicate, reduceCtorEq, omap, depth, pcall, pureR, freezeFor, freezeAll, tupR, resV, purR, enterTm, number, gcOk, rangeEnd, mkTup, allP, eqM, q_r06_Light, hL, q_law06_lives, hv, ld_c3])
  rw [if_pos hb] at hL
  have hc : t.count ≤ 60 := by omega
  have hA := s_term_All t
  have r0 := rg0_Sub t hc
  have h0 : foldE (T := Empty) (fun i s u => .inl (s ++ [u])) 0 ([] : List Term) t.post = .inl t.post := by
    rw [foldE_foldl (fun s u => s ++ [u]) t.post 0 [], foldl_id]; rfl
  rw [h0] at r0
  have r0' : rangeR P [24] A0_law06_TermSubterms B0_law06_TermSubterms (.p (.fn f_term_All_1 [.ptr t.row 0])) [(2, .ptr 0 1 0 0), (6, .ptr 2 1 0 0)] [.pv 1 [[.bool false]] false, .pv 0 [] false, .av 1 [[.sl 1 0]] false] 79 none = _ := r0
  have hpl := Term.post_len t
  have k1 := s_r06_Post t (by omega)
  have k2 := s_term_Subterms t ht (by omega)
  have k3 := s_r06_Subterms t ht (by omega)
  have k4 := s_r06_SameAll t.post t.post (by omega) (post_TOk ht)
  have hSm : ∀ a ∈ t.post.foldl addS [], a ∈ t.post := fun a ha => by
    rcases subs_mem ha with h | h
    · simp at h
    · exact h
  have hSl := subs_len (l := t.post) (s := [])
  rw [List.length_nil] at hSl
  have k5 := s_r06_SameAll (t.post.foldl addS []) (t.post.foldl addS []) (by omega) (fun a ha => post_TOk ht a (hSm a ha))
  have bs : ∀ l : List Term, Term.beqs l l = true := by
    intro l
    induction l with
    | nil => rfl
    | cons a l ih => simp [Term.beqs, bq_s, ih]
  rw [bs] at k4 k5
  have hne : t.post ≠ [] := by
    intro h
    have := congrArg List.length h
    rw [Term.post_len, Term.count_eq] at this
    simp at this
  have hSp : 0 < (t.post.foldl addS []).length := by
    cases hp : t.post with
    | nil => exact absurd hp hne
    | cons a l =>
      exact subs_pos (l := l) (s := addS [] a) (by simp [addS])
  have r1 := rg1_Sub t hc t.post (t.post.foldl addS [])
  rw [two_fold] at r1
  have kc := s_r06_Check t ht (by omega)
  have hl2 := fun h σ => l2_Sub t ht hc (t.post.foldl addS []) hSm (by omega) h σ
  generalize t.post.foldl addS [] = S at *
  generalize t.post = l at *
  have hP := fun (k : Nat) (c : Obj) (r : Store) => ob1_pur k l c r
  have hN := fun (c : Obj) (r : Store) => ob1_len l c r
  have hSt : ((0 : Int) < S.length) = True := by simp; omega
  have hn2 := fun σ => l2_none t S σ
  simp only [e_l2] at hl2 hn2
  have hl1 : 1 ≤ l.length := by omega
  rcases Nat.lt_or_ge l.length 2 with h2 | h2
  · have h1 : l.length = 1 := by omega
    have hm : min (2 : Int) l.length = 1 := by rw [h1]; rfl
    rw [if_neg (by omega), h1] at r1
    have r1' : rangeR P [49] A1_law06_TermSubterms B1_law06_TermSubterms (.p (.fn f_term_All_1 [.ptr t.row 0])) [(1, .p (.ptr t.row 0)), (2, .ptr 0 1 0 0), (6, .ptr 2 1 0 0), (8, .p (.lst (S.map Term.row))), (9, .ptr 3 1 0 0)] [.pv 1 [[.bool false]] false, obT l, .av 1 [[.sl 1 l.length]] false, .pv 1 [[.int .i64 0]] false] 79 none = some (.normal, [.pv 1 [[.bool false]] false, obT l, .av 1 [[.sl 1 l.length]] false, .pv 1 [[.int .i64 1]] false]) := r1
    rcases Classical.propComplete (checkT t = 0) with c0 | c0
    · have hq := hl2 (of_eq_true c0)
      rw [of_eq_true c0] at kc
      (rw [r_law06_TermSubterms (Nat.le_of_ble_eq_true rfl), F_law06_TermSubterms]; simp (disch := omega) only [eqs, eqL, ↓gc_len, seval, -List.reduceReplicate, reduceCtorEq, omap, depth, pcall, pureR, freezeFor, freezeAll, tupR, resV, purR, enterTm, number, gcOk, rangeEnd, mkTup, allP, eqM, q_r06_Light, hL, q_term_All, hA, v_isnfn, kR0_law06_TermSubterms, r0', q_term_Subterms, k2, q_r06_Post, k1, hP, q_r06_SameAll, k4, q_r06_Subterms, k3, k5, init_n1, kR1_law06_TermSubterms, r1', k2_law06_TermSubterms, hq, B2_law06_TermSubterms, Int.lt_irrefl, List.length_map, hN, hm, ld_ci, q_law06_lives, hv, ld_c3])
    · (rw [r_law06_TermSubterms (Nat.le_of_ble_eq_true rfl), F_law06_TermSubterms]; simp (disch := omega) only [eqs, eqL, ↓gc_len, seval, -List.reduceReplicate, reduceCtorEq, omap, depth, pcall, pureR, freezeFor, freezeAll, tupR, resV, purR, enterTm, number, gcOk, rangeEnd, mkTup, allP, eqM, q_r06_Light, hL, q_term_All, hA, v_isnfn, kR0_law06_TermSubterms, r0', q_term_Subterms, k2, q_r06_Post, k1, hP, q_r06_SameAll, k4, q_r06_Subterms, k3, k5, init_n1, kR1_law06_TermSubterms, r1', k2_law06_TermSubterms, hn2, hSt, q_r06_Check, kc, c0, B2_law06_TermSubterms, Int.lt_irrefl, List.length_map, hN, hm, ld_ci, q_law06_lives, hv, ld_c3])
  · have h1 : 2 ≤ l.length := h2
    have hm : min (2 : Int) l.length = 2 := by omega
    rw [if_pos h1] at r1
    have r1' : rangeR P [49] A1_law06_TermSubterms B1_law06_TermSubterms (.p (.fn f_term_All_1 [.ptr t.row 0])) [(1, .p (.ptr t.row 0)), (2, .ptr 0 1 0 0), (6, .ptr 2 1 0 0), (8, .p (.lst (S.map Term.row))), (9, .ptr 3 1 0 0)] [.pv 1 [[.bool false]] false, obT l, .av 1 [[.sl 1 l.length]] false, .pv 1 [[.int .i64 0]] false] 79 none = some (.exit 2, [.pv 1 [[.bool false]] false, obT l, .av 1 [[.sl 1 l.length]] false, .pv 1 [[.int .i64 2]] false]) := r1
    rcases Classical.propComplete (checkT t = 0) with c0 | c0
    · have hq := hl2 (of_eq_true c0)
      rw [of_eq_true c0] at kc
      (rw [r_law06_TermSubterms (Nat.le_of_ble_eq_true rfl), F_law06_TermSubterms]; simp (disch := omega) only [eqs, eqL, ↓gc_len, seval, -List.reduceReplicate, reduceCtorEq, omap, depth, pcall, pureR, freezeFor, freezeAll, tupR, resV, purR, enterTm, number, gcOk, rangeEnd, mkTup, allP, eqM, q_r06_Light, hL, q_term_All, hA, v_isnfn, kR0_law06_TermSubterms, r0', q_term_Subterms, k2, q_r06_Post, k1, hP, q_r06_SameAll, k4, q_r06_Subterms, k3, k5, init_n1, kR1_law06_TermSubterms, r1', k2_law06_TermSubterms, hq, B2_law06_TermSubterms, Int.lt_irrefl, List.length_map, hN, hm, ld_ci, q_law06_lives, hv, ld_c3])
    · (rw [r_law06_TermSubterms (Nat.le_of_ble_eq_true rfl), F_law06_TermSubterms]; simp (disch := omega) only [eqs, eqL, ↓gc_len, seval, -List.reduceReplicate, reduceCtorEq, omap, depth, pcall, pureR, freezeFor, freezeAll, tupR, resV, purR, enterTm, number, gcOk, rangeEnd, mkTup, allP, eqM, q_r06_Light, hL, q_term_All, hA, v_isnfn, kR0_law06_TermSubterms, r0', q_term_Subterms, k2, q_r06_Post, k1, hP, q_r06_SameAll, k4, q_r06_Subterms, k3, k5, init_n1, kR1_law06_TermSubterms, r1', k2_law06_TermSubterms, hn2, hSt, q_r06_Check, kc, c0, B2_law06_TermSubterms, Int.lt_irrefl, List.length_map, hN, hm, ld_ci, q_law06_lives, hv, ld_c3])
end Go.AE.S
