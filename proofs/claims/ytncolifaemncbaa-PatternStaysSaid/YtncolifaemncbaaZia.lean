/- slices.Insert at a row of values of two cells: the four roads through the library's text. -/
import Derived.Test.YtncolifaemncbaaZi
import Derived.Test.YtncolifaemncbaaA2
import Derived.Test.YtncolifaemncbaaRows
import Derived.Shelf.Spec.SlicesInsertGrow
set_option linter.unusedVariables false
set_option linter.unusedSimpArgs false
namespace Go.AE
variable {p : Program}
def lay (o : Nat) (vs cs : List Value) : List Value := cs.take o ++ vs ++ cs.drop (o + vs.length)
theorem lay_length {o : Nat} {vs cs : List Value} (h : o + vs.length ≤ cs.length) : (lay o vs cs).length = cs.length := by
  simp [lay]
  omega
theorem lay_get {o : Nat} {vs cs : List Value} (h : o + vs.length ≤ cs.length) (k : Nat) : (lay o vs cs)[k]? = if o ≤ k ∧ k < o + vs.length then vs[k - o]? else cs[k]? := by
  have : putPart o vs cs = some (lay o vs cs) := by unfold putPart lay; rw [if_pos h]
  exact (putPart_get this).2 k
theorem run_copy_row' (w : World) (dT sT ty elem : TypeId) (b o dLen dCap : Nat) (a : Addr) (sLen sCap s : Nat) (vs : List Value) (cc : Array Value) (ct : TypeId)
    (hu : p.underlying dT = some (.slice elem)) (hs : (p.info? elem).map (·.size) = some s) (hn : vs.length = Nat.min sLen dLen * s)
    (hsrc : ∀ j v, vs[j]? = some v → w.cell? (a.add j) = some v) (hh : w.heap[b]? = some (.cells cc ct (0, 0))) (hb : o + vs.length ≤ cc.size) (h1 : ∀ v ∈ vs, v.oneCell' = true) :
    (Builtin.copy_ #[dT, sT] ty #[.slice (some ⟨b, o, none⟩) dLen dCap, .slice (some a) sLen sCap]).run p w = .ok (goInt (Nat.min sLen dLen)) (w.setRow b (lay o vs cc.toList).toArray) := by
  have hl := run_loadCells_list (P := p) w a vs hsrc
  have hst := run_storeCells_at p b o ct vs 0 cc w hh (by simpa using hb) h1
  simp only [Nat.add_zero] at hst
  cases hq : p.info? elem with
  | none => simp [hq] at hs
  | some i =>
    have hi : i.size = s := by simpa [hq] using hs
    subst hi
    simp [Builtin.copy_, run_underlying hu, Builtin.lenOf, Builtin.firstCells, sizeOf, typeInfo, hq, ← hn, hl, hst, lay]
/-- What a call of slices.Insert leaves. -/
def Inserted (w : World) (blk : Option Nat) (s n m i : Nat) (cs vs : List Value) (e : Ending) (w' : World) : Prop :=
  ∃ r c' cc' ct, e = .returned (.slice (some ⟨r, 0, none⟩) (n + m) c') ∧ n + m ≤ c' ∧ env w' = env w ∧ w.heap.size ≤ w'.heap.size ∧ (∀ q, q < w.heap.size → blk ≠ some q → w'.heap[q]? = w.heap[q]?) ∧
    (blk = some r ∨ (w.heap.size ≤ r ∧ r < w'.heap.size)) ∧ w'.heap[r]? = some (.cells cc' ct (0, 0)) ∧ cc'.size = c' * s ∧ ∀ k, k < (n + m) * s → cc'[k]? = (cs.take (i * s) ++ vs ++ cs.drop (i * s))[k]?
end Go.AE
namespace Go.Proofs.Ytncolifaemncbaa
open Go Go.AE Go.AE.S Go.Proofs Go.Lib
theorem i46 : (Try.prog.info? 46).map (fun i => (i.zero, i.size, i.bytes)) = some (some (Value.agg #[Value.string { data := #[] }, .int .i64 0]), 2, 24) := by kernel_rfl
theorem z46 : (Try.prog.info? 46).map (·.size) = some 2 := by kernel_rfl

theorem a38 : ∀ w, (isAgg 38).run Try.prog w = .ok false w := fun w => by kernel_rfl
theorem a3 : ∀ w, (isAgg 3).run Try.prog w = .ok false w := fun w => by kernel_rfl
theorem a4 : ∀ w, (isAgg 4).run Try.prog w = .ok false w := fun w => by kernel_rfl
theorem z38 : ∀ w, (Go.sizeOf 38).run Try.prog w = .ok 1 w := fun w => by kernel_rfl
theorem z3 : ∀ w, (Go.sizeOf 3).run Try.prog w = .ok 1 w := fun w => by kernel_rfl
theorem z4 : ∀ w, (Go.sizeOf 4).run Try.prog w = .ok 1 w := fun w => by kernel_rfl
theorem zz46 : ∀ w, (Go.sizeOf 46).run Try.prog w = .ok 2 w := fun w => by kernel_rfl
set_option maxHeartbeats 4000000 in
set_option maxRecDepth 100000 in
theorem ins_end_room (b n c m vb vc : Nat) (cs vs : List Value) (cc : Array Value) (ct : TypeId) (w : World) (hm : 0 < m) (hroom : n + m ≤ c) (hbig : (n + m) * 24 ≤ 140737488355328)
    (hcl : cs.length = n * 2) (hvl : vs.length = m * 2) (hb : w.heap[b]? = some (.cells cc ct (0, 0))) (hsz : cc.size = c * 2) (hcs : ∀ (j : Nat) (v : Value), cs[j]? = some v → cc[j]? = some v)
    (hvs : ∀ j v, vs[j]? = some v → w.cell? ⟨vb, j, none⟩ = some v) (h1v : ∀ v ∈ vs, v.oneCell' = true) :
    Calls Try.prog 64 #[.slice (some ⟨b, 0, none⟩) n c, .int .i64 n, .slice (some ⟨vb, 0, none⟩) m vc] w (Inserted w (some b) 2 n m n cs vs) := by
  have t38 := Try.underlying38; have t3 := Try.underlying3; have t4 := Try.underlying4
  have u38 := run_underlying Try.underlying38; have u3 := run_underlying Try.underlying3; have u4 := run_underlying Try.underlying4
  have a38 := a38; have a3 := a3; have a4 := a4; have z38 := z38; have z3 := z3; have z4 := z4; have zz46 := zz46
  obtain ⟨i0, hi0, hz0, hzs, hzb⟩ := info_parts i46
  have hz1 : ¬ ((m : Int) = 0) := by omega
  have hnew : (Builtin.firstCells i0.size m (.slice (some ⟨vb, 0, none⟩) m vc)).run Try.prog w = .ok vs.toArray w := by
    rw [hzs]
    exact run_firstCells_some w 2 m ⟨vb, 0, none⟩ m vc vs (by omega) (fun j v hj => by rw [addr_add, Nat.zero_add]; exact hvs j v hj)
  have hbd : n * 2 + vs.length ≤ cc.size := by omega
  have hst : (storeCells (Addr.add ⟨b, 0, none⟩ (n * i0.size)) vs.toArray.toList).run Try.prog w = .ok () (w.setRow b (lay (n * 2) vs cc.toList).toArray) := by
    rw [hzs, addr_add, Nat.zero_add]
    have := run_storeCells_at Try.prog b (n * 2) ct vs 0 cc w hb (by simpa using hbd) h1v
    simpa [lay] using this
  have hrun := fun ty => run_append_in (p := Try.prog) (ty := ty) (T := #[38, 38]) (args := #[.slice (some ⟨b, 0, none⟩) n c, .slice (some ⟨vb, 0, none⟩) m vc]) (t := 38) (t1 := 38) (w := w) rfl Try.underlying38 rfl Try.underlying38 (by simp) hi0 rfl rfl (fun w => by simp [Builtin.lenOf]) hroom hnew (fun a ha => by cases ha; exact hst) (by simp)
  go_enter Try.func64, Try.ntmps64
  go_wp2_with (at_builtin; refine Lib.wpList_append_run _ rfl _ _ _ _ rfl _ _ rfl rfl _ _ (hrun _) ?_)
  go_ret
  have hl := lay_length (o := n * 2) (vs := vs) (cs := cc.toList) (by simpa using hbd)
  have hg := lay_get (o := n * 2) (vs := vs) (cs := cc.toList) (by simpa using hbd)
  refine ⟨b, c, _, ct, rfl, hroom, rfl, by simp, fun q _ hq => setRow_other _ _ _ _ (fun h => hq (by rw [h])), .inl rfl, setRow_heap _ _ _ _ _ _ hb, by simpa using hl.trans (by simpa using hsz), fun k hk => ?_⟩
  rw [List.getElem?_toArray, hg k]
  have e1 : cs.take (n * 2) = cs := by rw [← hcl]; exact List.take_length
  have e2 : cs.drop (n * 2) = [] := by rw [← hcl]; exact List.drop_length
  rw [e1, e2, List.append_nil]
  by_cases hk2 : k < n * 2
  · rw [List.getElem?_append_left (by omega), if_neg (by omega)]
    have : cs[k]? = some cs[k] := List.getElem?_eq_getElem (by omega)
    rw [this]
    simpa using hcs k _ this
  · rw [List.getElem?_append_right (by omega), if_pos (by omega), hcl]


set_option maxHeartbeats 4000000 in
set_option maxRecDepth 100000 in
theorem ins_end_grow (base : Option Addr) (blk : Option Nat) (n c m vb vc : Nat) (cs vs : List Value) (w : World) (hm : 0 < m) (hnc : n ≤ c) (hroom : c < n + m) (hbig : (n + m) * 24 ≤ 140737488355328)
    (hcl : cs.length = n * 2) (hvl : vs.length = m * 2) (hold : (Builtin.firstCells 2 n (.slice base n c)).run Try.prog w.drew = .ok cs.toArray w.drew) (hnb : n = 0 ∧ c = 0 ∨ ∃ b, base = some ⟨b, 0, none⟩)
    (hvs : ∀ (j : Nat) (v : Value), vs[j]? = some v → w.cell? ⟨vb, j, none⟩ = some v) :
    Calls Try.prog 64 #[.slice base n c, .int .i64 n, .slice (some ⟨vb, 0, none⟩) m vc] w (Inserted w blk 2 n m n cs vs) := by
  have t38 := Try.underlying38; have t3 := Try.underlying3; have t4 := Try.underlying4
  have u38 := run_underlying Try.underlying38; have u3 := run_underlying Try.underlying3; have u4 := run_underlying Try.underlying4
  have a38 := a38; have a3 := a3; have a4 := a4; have z38 := z38; have z3 := z3; have z4 := z4; have zz46 := zz46
  obtain ⟨i0, hi0, hz0, hzs, hzb⟩ := info_parts i46
  have hz1 : ¬ ((m : Int) = 0) := by omega
  have hnew : (Builtin.firstCells i0.size m (.slice (some ⟨vb, 0, none⟩) m vc)).run Try.prog w.drew = .ok vs.toArray w.drew := by
    rw [hzs]
    exact run_firstCells_some w.drew 2 m ⟨vb, 0, none⟩ m vc vs (by omega) (fun j v hj => by rw [addr_add, Nat.zero_add]; exact hvs j v hj)
  rw [← hzs] at hold
  have hrun := fun ty => run_append_grow' (p := Try.prog) (ty := ty) (T := #[38, 38]) (args := #[.slice base n c, .slice (some ⟨vb, 0, none⟩) m vc]) (t := 38) (t1 := 38) (w := w) rfl Try.underlying38 rfl Try.underlying38 (by simp) hi0 hz0 rfl rfl (fun w => by simp [Builtin.lenOf]) hroom (by rw [hzb]; decide) (by rw [hzb]; exact hbig) hold hnew
  obtain ⟨g1, g2⟩ := grown_cells (es := 2) (n := n) (cnt := m) (cap := grownCap w (n + m) c 46) (z := (Value.agg #[Value.string { data := #[] }, .int .i64 0]).cells) (old := cs) (new := vs) hcl hvl rfl (le_grownCap _ _ _ _)
  obtain ⟨G, hG⟩ : ∃ G, G = grownCap w (n + m) c 46 := ⟨_, rfl⟩
  have hGe := le_grownCap w (n + m) c 46
  rw [← hG] at hrun g1 g2 hGe
  obtain ⟨ROW, hROW⟩ : ∃ ROW : Array Value, ROW = cs.toArray ++ vs.toArray ++ Builtin.zeroCells (Value.agg #[Value.string { data := #[] }, .int .i64 0]).cells (G - (n + m)) := ⟨_, rfl⟩
  rw [← hROW] at hrun g1 g2
  have fin : Inserted w blk 2 n m n cs vs (.returned (.slice (some ⟨w.heap.size, 0, none⟩) (n + m) G)) (w.drew.alloc (.cells ROW 46)) := by
    refine ⟨_, G, ROW, 46, rfl, hGe, rfl, by simp, fun q hq _ => heap_alloc_old w.drew _ hq, .inr ⟨Nat.le_refl _, by simp⟩, heap_alloc_new w.drew _, g1, fun k hk => ?_⟩
    have e1 : cs.take (n * 2) = cs := by rw [← hcl]; exact List.take_length
    have e2 : cs.drop (n * 2) = [] := by rw [← hcl]; exact List.drop_length
    rw [g2 k (by omega), e1, e2, List.append_nil]
  clear hROW hG
  go_enter Try.func64, Try.ntmps64
  rcases hnb with ⟨rfl, rfl⟩ | ⟨b, rfl⟩
  · cases base with
    | none =>
      go_wp2_with (at_builtin; refine Lib.wpList_append_run _ rfl _ _ _ _ rfl _ _ rfl rfl _ _ (hrun _) ?_)
      go_ret
      rw [Nat.zero_add] at fin
      exact fin
    | some a =>
      obtain ⟨ab, ao, asp⟩ := a
      go_wp2_with (at_builtin; refine Lib.wpList_append_run _ rfl _ _ _ _ rfl _ _ rfl rfl _ _ (hrun _) ?_)
      all_goals (go_ret; first | exact fin | (rw [Nat.zero_add] at fin; exact fin))
  · go_wp2_with (at_builtin; refine Lib.wpList_append_run _ rfl _ _ _ _ rfl _ _ rfl rfl _ _ (hrun _) ?_)
    all_goals (go_ret; first | exact fin | (rw [Nat.zero_add] at fin; exact fin))

set_option maxHeartbeats 4000000 in
set_option maxRecDepth 100000 in
theorem ins_shift (b n c i m vb vc : Nat) (cs vs : List Value) (cc vcc : Array Value) (ct vt : TypeId) (w : World) (hi : i < n) (hm : 0 < m) (hroom : n + m ≤ c) (hbig : (n + m) * 24 ≤ 140737488355328) (hvb : vb ≠ b)
    (hcl : cs.length = n * 2) (hvl : vs.length = m * 2) (hb : w.heap[b]? = some (.cells cc ct (0, 0))) (hsz : cc.size = c * 2) (hcs : ∀ (j : Nat) (v : Value), cs[j]? = some v → cc[j]? = some v)
    (hvh : w.heap[vb]? = some (.cells vcc vt (0, 0))) (hvs : ∀ (j : Nat) (v : Value), vs[j]? = some v → vcc[j]? = some v) (h1c : ∀ v ∈ cs, v.oneCell' = true) (h1v : ∀ v ∈ vs, v.oneCell' = true) :
    Calls Try.prog 64 #[.slice (some ⟨b, 0, none⟩) n c, .int .i64 i, .slice (some ⟨vb, 0, none⟩) m vc] w (Inserted w (some b) 2 n m i cs vs) := by
  have t38 := Try.underlying38; have t3 := Try.underlying3; have t4 := Try.underlying4
  have u38 := run_underlying Try.underlying38; have u3 := run_underlying Try.underlying3; have u4 := run_underlying Try.underlying4
  have a38 := a38; have a3 := a3; have a4 := a4; have z38 := z38; have z3 := z3; have z4 := z4; have zz46 := zz46
  have hz1 : ¬ ((m : Int) = 0) := by omega
  have hz2 : ¬ ((i : Int) = (n : Int)) := by omega
  have hsa : w.shape? vb = some (vt, vcc.size) := by simp [World.shape?, hvh]
  have hsb : w.shape? b = some (ct, cc.size) := by simp [World.shape?, hb]
  have hfr : ∀ k, w.frozen? ⟨vb, k, none⟩ = false := fun k => by simp [World.frozen?, hvh]
  have hov : ∀ lb cb, (callFunc 87 #[.slice (some ⟨vb, 0, none⟩) m vc, .slice (some ⟨b, (i + m) * 2, none⟩) lb cb]).run Try.prog w = .ok (.value (.bool false)) w := fun lb cb => by
    rw [run_callFunc_extern Try.func87 (by kernel_rfl) (by kernel_rfl) (by kernel_rfl) (e := Extern.SlicesOverlaps.overlaps #[38, 38] #[4]) (by kernel_rfl),
      Lib.run_overlaps_apart w 38 4 46 Try.underlying38 2 zz46 ⟨vb, 0, none⟩ ⟨b, (i + m) * 2, none⟩ m vc lb cb hvb vt ct vcc.size cc.size hsa hsb (by omega) (hfr _) (hfr _)]
    rfl
  have hdl : (cs.drop (i * 2)).length = (n - i) * 2 := by rw [List.length_drop, hcl]; omega
  have mixed : Try.prog.follows .mixedOrders = true := by kernel_rfl
  have hw1 : IntKind.i64.wrap ((i : Int) + (m : Int)) = (i : Int) + (m : Int) := by rw [IntKind.wrap_i64]; omega
  have hb1 : (0 : Int) ≤ (i : Int) + (m : Int) := by omega
  have hin : i ≤ n := by omega
  have htn : ((i : Int) + (m : Int)).toNat = i + m := by omega
  have hb2 : ¬ (c = i + m) := by omega
  have hb3 : (i : Int) ≤ (n : Int) + (m : Int) := by omega
  have hb4 : ¬ (c = i) := by omega
  have hbd1 : (i + m) * 2 + (cs.drop (i * 2)).length ≤ cc.size := by omega
  have hcp1 : ∀ ty dc sc, (Builtin.copy_ #[38, 38] ty #[.slice (some ⟨b, (i + m) * 2, none⟩) (n + m - (i + m)) dc, .slice (some ⟨b, i * 2, none⟩) (n + m - i) sc]).run Try.prog w.drew = .ok (goInt (Nat.min (n + m - i) (n + m - (i + m)))) (w.drew.setRow b (lay ((i + m) * 2) (cs.drop (i * 2)) cc.toList).toArray) := fun ty dc sc =>
    run_copy_row' w.drew 38 38 ty 46 b ((i + m) * 2) (n + m - (i + m)) dc ⟨b, i * 2, none⟩ (n + m - i) sc 2 (cs.drop (i * 2)) cc ct Try.underlying38 z46 (by rw [hdl]; simp only [Nat.min_def]; split <;> omega)
      (fun j v hj => by rw [addr_add, cell_row (show w.drew.heap[b]? = some (.cells cc ct (0, 0)) from hb)]; exact hcs _ v (by rwa [List.getElem?_drop] at hj)) hb hbd1 (fun v hv => h1c v (List.mem_of_mem_drop hv))
  have hbd1L : (i + m) * 2 + (cs.drop (i * 2)).length ≤ cc.toList.length := by rw [Array.length_toList]; exact hbd1
  obtain ⟨c1, hc1⟩ : ∃ c1, c1 = lay ((i + m) * 2) (cs.drop (i * 2)) cc.toList := ⟨_, rfl⟩
  have hl1 : c1.length = cc.size := by rw [hc1, lay_length hbd1L, Array.length_toList]
  have hg1 := lay_get hbd1L
  rw [← hc1] at hg1
  rw [← hc1] at hcp1
  have hb1' : (w.drew.setRow b c1.toArray).heap[b]? = some (.cells c1.toArray ct (0, 0)) := setRow_heap _ _ _ _ _ _ hb
  have hv1' : (w.drew.setRow b c1.toArray).heap[vb]? = some (.cells vcc vt (0, 0)) := by rw [setRow_other _ _ _ _ hvb]; exact hvh
  have hbd2 : i * 2 + vs.length ≤ c1.toArray.size := by simp only [List.size_toArray]; omega
  have hcp2 : ∀ (W : World), W.heap = (w.drew.setRow b c1.toArray).heap → ∀ ty dc, (Builtin.copy_ #[38, 38] ty #[.slice (some ⟨b, i * 2, none⟩) (n + m - i) dc, .slice (some ⟨vb, 0, none⟩) m vc]).run Try.prog W = .ok (goInt (Nat.min m (n + m - i))) (W.setRow b (lay (i * 2) vs c1).toArray) := fun W hW ty dc => by
    have := run_copy_row' W 38 38 ty 46 b (i * 2) (n + m - i) dc ⟨vb, 0, none⟩ m vc 2 vs c1.toArray ct Try.underlying38 z46 (by rw [hvl]; simp only [Nat.min_def]; split <;> omega)
      (fun j v hj => by rw [addr_add, cell_congr (w := w.drew.setRow b c1.toArray) (by rw [hW]), cell_row hv1', Nat.zero_add]; exact hvs _ v hj) (by rw [hW]; exact hb1') hbd2 h1v
    simpa using this
  have hg2 := lay_get (o := i * 2) (vs := vs) (cs := c1) (by simpa using hbd2)
  have hl2 := lay_length (o := i * 2) (vs := vs) (cs := c1) (by simpa using hbd2)
  obtain ⟨c2, hc2⟩ : ∃ c2, c2 = lay (i * 2) vs c1 := ⟨_, rfl⟩
  rw [← hc2] at hcp2 hg2 hl2
  have fin : ∀ w', w'.heap = ((w.drew.setRow b c1.toArray).setRow b c2.toArray).heap → env w' = env w → Inserted w (some b) 2 n m i cs vs (.returned (.slice (some ⟨b, 0, none⟩) (n + m) c)) w' := by
    intro w' hh he
    refine ⟨b, c, c2.toArray, ct, rfl, hroom, he, by rw [hh]; exact Nat.le_of_eq (by simp), fun q _ hq => ?_, .inl rfl, by rw [hh]; exact setRow_heap _ _ _ _ _ _ hb1', by simpa [hl2, hl1] using hsz, fun k hk => ?_⟩
    · have hqb : q ≠ b := fun h => hq (by rw [h])
      rw [hh, setRow_other _ _ _ _ hqb, setRow_other _ _ _ _ hqb]
      rfl
    · rw [List.getElem?_toArray, hg2 k, hg1 k, hdl, hvl]
      have ht : (cs.take (i * 2)).length = i * 2 := by rw [List.length_take]; omega
      by_cases k1 : k < i * 2
      · rw [if_neg (by omega), if_neg (by omega), List.append_assoc, List.getElem?_append_left (by omega), List.getElem?_take, if_pos k1]
        have : cs[k]? = some cs[k] := List.getElem?_eq_getElem (by omega)
        rw [this]
        simpa using hcs k _ this
      · by_cases k2 : k < (i + m) * 2
        · rw [if_pos (by omega), List.append_assoc, List.getElem?_append_right (by omega), ht, List.getElem?_append_left (by omega)]
        · rw [if_neg (by omega), if_pos (by omega), List.getElem?_append_right (by rw [List.length_append]; omega), List.length_append, ht, hvl]
          congr 1
          omega
  clear hc1 hc2
  go_enter Try.func64, Try.ntmps64
  go_wp2_with (simp only [hov])
  go_region_law_o (refine step_copy_runI rfl _ _ 38 38 rfl _ _ (by simp [Act.eval, Act.put]) (by simp [Act.eval, Act.put]) (hcp1 _ _ _) ?_)
  go_wp2_with (at_builtin; refine wpList_copy_runI _ rfl _ _ 38 38 rfl _ _ rfl rfl (hcp2 _ rfl _ _) ?_)
  go_ret
  exact fin _ rfl rfl

set_option maxHeartbeats 4000000 in
set_option maxRecDepth 100000 in
theorem ins_grow (b n c i m vb vc : Nat) (cs vs : List Value) (cc vcc : Array Value) (ct vt : TypeId) (w : World) (hi : i < n) (hm : 0 < m) (hnc : n ≤ c) (hroom : c < n + m) (hbig : (n + m) * 24 ≤ 140737488355328)
    (hcl : cs.length = n * 2) (hvl : vs.length = m * 2) (hb : w.heap[b]? = some (.cells cc ct (0, 0))) (hcs : ∀ (j : Nat) (v : Value), cs[j]? = some v → cc[j]? = some v)
    (hvh : w.heap[vb]? = some (.cells vcc vt (0, 0))) (hvs : ∀ (j : Nat) (v : Value), vs[j]? = some v → vcc[j]? = some v) (h1c : ∀ v ∈ cs, v.oneCell' = true) (h1v : ∀ v ∈ vs, v.oneCell' = true) :
    Calls Try.prog 64 #[.slice (some ⟨b, 0, none⟩) n c, .int .i64 i, .slice (some ⟨vb, 0, none⟩) m vc] w (Inserted w (some b) 2 n m i cs vs) := by
  have t38 := Try.underlying38; have t3 := Try.underlying3; have t4 := Try.underlying4
  have u38 := run_underlying Try.underlying38; have u3 := run_underlying Try.underlying3; have u4 := run_underlying Try.underlying4
  have a38 := a38; have a3 := a3; have a4 := a4; have z38 := z38; have z3 := z3; have z4 := z4; have zz46 := zz46
  obtain ⟨i0, hi0, hz0, hzs, hzb⟩ := info_parts i46
  have mixed : Try.prog.follows .mixedOrders = true := by kernel_rfl
  have hz1 : ¬ ((m : Int) = 0) := by omega
  have hz2 : ¬ ((i : Int) = (n : Int)) := by omega
  have hz3 : (c : Int) < (n : Int) + (m : Int) := by omega
  have hbw : b < w.heap.size := (Array.getElem?_eq_some_iff.1 hb).1
  have hvw : vb < w.heap.size := (Array.getElem?_eq_some_iff.1 hvh).1
  have hkk : (n : Int) + (m : Int) - (i : Int) = ((n + m - i : Nat) : Int) := by omega
  have hik : i + (n + m - i) = n + m := by omega
  have htl : (cs.take (i * 2)).length = i * 2 := by rw [List.length_take]; omega
  have hold : (Builtin.firstCells i0.size i (.slice (some ⟨b, 0, none⟩) i c)).run Try.prog w.drew = .ok (cs.take (i * 2)).toArray w.drew := by
    rw [hzs]
    exact run_firstCells_some w.drew 2 i ⟨b, 0, none⟩ i c (cs.take (i * 2)) (by omega) (fun j v hj => by
      rw [addr_add, cell_row (show w.drew.heap[b]? = some (.cells cc ct (0, 0)) from hb), Nat.zero_add]
      rw [List.getElem?_take] at hj
      split at hj
      · exact hcs j v hj
      · cases hj)
  have hrz : ∀ ty, (Builtin.append_ #[38, 3] ty #[.slice (some ⟨b, 0, none⟩) i c, .int .i64 ((n : Int) + (m : Int) - (i : Int))]).run Try.prog w =
      .ok (.slice (some ⟨w.heap.size, 0, none⟩) (n + m) (grownCap w (n + m) c 46)) (w.drew.alloc (.cells ((cs.take (i * 2)).toArray ++ Builtin.zeroCells (Value.agg #[Value.string { data := #[] }, .int .i64 0]).cells (n + m - i) ++ Builtin.zeroCells (Value.agg #[Value.string { data := #[] }, .int .i64 0]).cells (grownCap w (n + m) c 46 - (n + m))) 46)) := fun ty => by
    have h := Lib.run_append_grow_zeros w 38 3 ty 46 i0 _ .i64 .i64 Try.underlying38 Try.underlying3 hi0 hz0 (some ⟨b, 0, none⟩) i c (cs.take (i * 2)) hold (n + m - i) (by omega) (by omega) (by omega) (by omega) (by rw [hzb]; omega) (by rw [hzb, hik]; exact growslice_fits hroom hbig)
    rw [hik] at h
    rw [hkk]
    exact h
  have hGn := le_grownCap w (n + m) c 46
  obtain ⟨G, hG⟩ : ∃ G, G = grownCap w (n + m) c 46 := ⟨_, rfl⟩
  obtain ⟨ROW, hROW⟩ : ∃ ROW : Array Value, ROW = (cs.take (i * 2)).toArray ++ Builtin.zeroCells (Value.agg #[Value.string { data := #[] }, .int .i64 0]).cells (n + m - i) ++ Builtin.zeroCells (Value.agg #[Value.string { data := #[] }, .int .i64 0]).cells (G - (n + m)) := ⟨_, rfl⟩
  have hG63 : G ≤ 9223372036854775807 := by
    have := grownCap_le_maxLen w (n + m) c 46 (by unfold maxLen; omega)
    rw [← hG] at this
    unfold maxLen at this
    omega
  rw [← hG] at hrz hGn
  rw [← hROW] at hrz
  have hRl : ROW.size = G * 2 := by
    rw [hROW]
    simp [Builtin.zeroCells, Value.cells]
    omega
  have hRg : ∀ k, k < i * 2 → ROW[k]? = cs[k]? := fun k hk => by
    rw [hROW, Array.append_assoc, Array.getElem?_append_left (by simpa using Nat.lt_of_lt_of_eq hk htl.symm)]
    simp [List.getElem?_take, hk]
  obtain ⟨W1, hW1⟩ : ∃ W1, W1 = w.drew.alloc (.cells ROW 46) := ⟨_, rfl⟩
  rw [← hW1] at hrz
  have hN : W1.heap[w.heap.size]? = some (.cells ROW 46 (0, 0)) := by rw [hW1]; exact heap_alloc_new w.drew _
  have hOb : ∀ q, q < w.heap.size → W1.heap[q]? = w.heap[q]? := fun q hq => by rw [hW1]; exact heap_alloc_old w.drew _ hq
  have hbd1 : i * 2 + vs.length ≤ ROW.size := by omega
  have hcpA : ∀ (W : World), W.heap = W1.heap → ∀ ty dc, (Builtin.copy_ #[38, 38] ty #[.slice (some ⟨w.heap.size, i * 2, none⟩) (n + m - i) dc, .slice (some ⟨vb, 0, none⟩) m vc]).run Try.prog W = .ok (goInt (Nat.min m (n + m - i))) (W.setRow w.heap.size (lay (i * 2) vs ROW.toList).toArray) := fun W hW ty dc =>
    run_copy_row' W 38 38 ty 46 w.heap.size (i * 2) (n + m - i) dc ⟨vb, 0, none⟩ m vc 2 vs ROW 46 Try.underlying38 z46 (by rw [hvl]; simp only [Nat.min_def]; split <;> omega)
      (fun j v hj => by rw [addr_add, cell_row (show W.heap[vb]? = some (.cells vcc vt (0, 0)) by rw [hW, hOb _ hvw]; exact hvh), Nat.zero_add]; exact hvs _ v hj) (by rw [hW]; exact hN) hbd1 h1v
  obtain ⟨c1, hc1⟩ : ∃ c1, c1 = lay (i * 2) vs ROW.toList := ⟨_, rfl⟩
  have hbd1L : i * 2 + vs.length ≤ ROW.toList.length := by rw [Array.length_toList]; exact hbd1
  have hl1 : c1.length = ROW.size := by rw [hc1, lay_length hbd1L, Array.length_toList]
  have hg1 := lay_get hbd1L
  rw [← hc1] at hg1 hcpA
  have hGi : ¬ (G = i) := by omega
  have hGim : ¬ (G = i + m) := by omega
  have hci : ¬ (c = i) := by omega
  have hbN : b ≠ w.heap.size := by omega
  have hdl : (cs.drop (i * 2)).length = (n - i) * 2 := by rw [List.length_drop, hcl]; omega
  have hN1 : ∀ W : World, W.heap = W1.heap → (W.setRow w.heap.size c1.toArray).heap[w.heap.size]? = some (.cells c1.toArray 46 (0, 0)) := fun W hW => setRow_heap _ _ _ _ _ _ (by rw [hW]; exact hN)
  have hbd2 : (i + m) * 2 + (cs.drop (i * 2)).length ≤ c1.toArray.size := by simp only [List.size_toArray]; omega
  have hcpB : ∀ (W : World), W.heap = (W1.setRow w.heap.size c1.toArray).heap → ∀ ty dc sc, (Builtin.copy_ #[38, 38] ty #[.slice (some ⟨w.heap.size, (i + m) * 2, none⟩) (n + m - (i + m)) dc, .slice (some ⟨b, i * 2, none⟩) (n - i) sc]).run Try.prog W = .ok (goInt (Nat.min (n - i) (n + m - (i + m)))) (W.setRow w.heap.size (lay ((i + m) * 2) (cs.drop (i * 2)) c1).toArray) := fun W hW ty dc sc => by
    have := run_copy_row' W 38 38 ty 46 w.heap.size ((i + m) * 2) (n + m - (i + m)) dc ⟨b, i * 2, none⟩ (n - i) sc 2 (cs.drop (i * 2)) c1.toArray 46 Try.underlying38 z46 (by rw [hdl]; simp only [Nat.min_def]; split <;> omega)
      (fun j v hj => by
        rw [addr_add, cell_row (show W.heap[b]? = some (.cells cc ct (0, 0)) by rw [hW, setRow_other _ _ _ _ hbN, hOb _ hbw]; exact hb)]
        exact hcs (i * 2 + j) v (by rwa [List.getElem?_drop] at hj)) (by rw [hW]; exact hN1 W1 rfl) hbd2 (fun v hv => h1c v (List.mem_of_mem_drop hv))
    simpa using this
  have hbd2L : (i + m) * 2 + (cs.drop (i * 2)).length ≤ c1.length := by simpa only [List.size_toArray] using hbd2
  have hg2 := lay_get hbd2L
  have hl2 := lay_length hbd2L
  obtain ⟨c2, hc2⟩ : ∃ c2, c2 = lay ((i + m) * 2) (cs.drop (i * 2)) c1 := ⟨_, rfl⟩
  rw [← hc2] at hcpB hg2 hl2
  have fin : ∀ w', w'.heap = ((W1.setRow w.heap.size c1.toArray).setRow w.heap.size c2.toArray).heap → env w' = env w → Inserted w (some b) 2 n m i cs vs (.returned (.slice (some ⟨w.heap.size, 0, none⟩) (n + m) G)) w' := by
    intro w' hh he
    have hsz : W1.heap.size = w.heap.size + 1 := by rw [hW1]; simp
    have hw's : w'.heap.size = w.heap.size + 1 := by rw [hh]; simp [hsz]
    refine ⟨w.heap.size, G, c2.toArray, 46, rfl, hGn, he, by omega, fun q hq _ => ?_, .inr ⟨Nat.le_refl _, by omega⟩, by rw [hh]; exact setRow_heap _ _ _ _ _ _ (hN1 W1 rfl), by simp [hl2, hl1, hRl], fun k hk => ?_⟩
    · have hqb : q ≠ w.heap.size := by omega
      rw [hh, setRow_other _ _ _ _ hqb, setRow_other _ _ _ _ hqb, hOb q hq]
    · rw [List.getElem?_toArray, hg2 k, hg1 k, hdl, hvl]
      by_cases k1 : k < i * 2
      · rw [if_neg (by omega), if_neg (by omega), List.append_assoc, List.getElem?_append_left (by omega), List.getElem?_take, if_pos k1, Array.getElem?_toList, hRg k k1]
      · by_cases k2 : k < (i + m) * 2
        · rw [if_neg (by omega), if_pos (by omega), List.append_assoc, List.getElem?_append_right (by omega), htl, List.getElem?_append_left (by omega)]
        · rw [if_pos (by omega), List.getElem?_append_right (by rw [List.length_append]; omega), List.length_append, htl, hvl]
          congr 1
          omega
  subst hW1
  have hw1 : IntKind.i64.wrap ((i : Int) + (m : Int)) = (i : Int) + (m : Int) := by rw [IntKind.wrap_i64]; omega
  have hb1 : (0 : Int) ≤ (i : Int) + (m : Int) := by omega
  have hin : i ≤ n := by omega
  have htn : ((i : Int) + (m : Int)).toNat = i + m := by omega
  have hb3 : (i : Int) ≤ (n : Int) := by omega
  have hE : ((w.alloc (.cells ROW 46)).drew).heap = (w.drew.alloc (.cells ROW 46)).heap := rfl
  have hF : (((w.alloc (.cells ROW 46)).drew.setRow w.heap.size c1.toArray).drew).heap = ((w.drew.alloc (.cells ROW 46)).setRow w.heap.size c1.toArray).heap := rfl
  clear hkk hik hold hROW hG hRl hRg hc1 hc2 hg1 hg2 hl1 hl2
  go_enter Try.func64, Try.ntmps64
  go_wp2_with (at_builtin; refine Lib.wpList_append_run _ rfl _ _ _ _ rfl _ _ rfl rfl _ _ (hrz _) ?_)
  go_region_law_o (refine step_copy_runI rfl _ _ 38 38 rfl (.slice (some ⟨w.heap.size, (i + m) * 2, none⟩) (n + m - (i + m)) (G - (i + m))) (.slice (some ⟨b, i * 2, none⟩) (n - i) (c - i)) (by simp [Act.eval, Act.put]) (by simp [Act.eval, Act.put]) (hcpB _ hF 3 (G - (i + m)) (c - i)) ?_)
  go_wp2
  go_ret
  exact fin _ rfl rfl
end Go.Proofs.Ytncolifaemncbaa
