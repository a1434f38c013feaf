/- slices.Insert, as a call of the evaluator. -/
import Derived.Test.YtncolifaemncbaaZj
import Derived.Test.YtncolifaemncbaaZia
import Derived.WalkKit
import Derived.ProofKit
import Derived.OpenShut
namespace Go.AE
variable {p : Program} {cq : FuncId → Bool}
/-- Two lists, place by place. -/
def Par {α β : Type} (R : α → β → Prop) (xs : List α) (ys : List β) : Prop := xs.length = ys.length ∧ ∀ (k : Nat) (a : α), xs[k]? = some a → ∃ v, ys[k]? = some v ∧ R a v
theorem Par.append {α β : Type} {R : α → β → Prop} {xs xs' : List α} {ys ys' : List β} (h : Par R xs ys) (h' : Par R xs' ys') : Par R (xs ++ xs') (ys ++ ys') := by
  refine ⟨by simp [h.1, h'.1], fun k a hk => ?_⟩
  by_cases hl : k < xs.length
  · rw [List.getElem?_append_left hl] at hk
    rw [List.getElem?_append_left (by rw [← h.1]; exact hl)]
    exact h.2 k a hk
  · rw [List.getElem?_append_right (by omega)] at hk
    rw [List.getElem?_append_right (by rw [← h.1]; omega), ← h.1]
    exact h'.2 _ a hk
theorem Par.take {α β : Type} {R : α → β → Prop} {xs : List α} {ys : List β} (h : Par R xs ys) (n : Nat) : Par R (xs.take n) (ys.take n) := by
  refine ⟨by simp [h.1], fun k a hk => ?_⟩
  rw [List.getElem?_take] at hk ⊢
  split at hk
  · rename_i hlt
    rw [if_pos hlt]
    exact h.2 k a hk
  · cases hk
theorem Par.drop {α β : Type} {R : α → β → Prop} {xs : List α} {ys : List β} (h : Par R xs ys) (n : Nat) : Par R (xs.drop n) (ys.drop n) := by
  refine ⟨by simp [h.1], fun k a hk => ?_⟩
  rw [List.getElem?_drop] at hk ⊢
  exact h.2 _ a hk
theorem flatten_take {α : Type} {es : Nat} : ∀ (rows : List (List α)) (i : Nat), (∀ x ∈ rows, x.length = es) → (rows.take i).flatten = rows.flatten.take (i * es)
  | rows, 0, _ => by simp
  | [], i + 1, _ => by simp
  | x :: r, i + 1, h => by
    have hx := h x (by simp)
    rw [List.take_succ_cons, List.flatten_cons, List.flatten_cons, flatten_take r i (fun y hy => h y (by simp [hy])), Nat.succ_mul, List.take_append, hx, Nat.add_sub_cancel, List.take_of_length_le (l := x) (by omega)]
theorem flatten_drop {α : Type} {es : Nat} : ∀ (rows : List (List α)) (i : Nat), (∀ x ∈ rows, x.length = es) → (rows.drop i).flatten = rows.flatten.drop (i * es)
  | rows, 0, _ => by simp
  | [], i + 1, _ => by simp
  | x :: r, i + 1, h => by
    have hx := h x (by simp)
    rw [List.drop_succ_cons, List.flatten_cons, flatten_drop r i (fun y hy => h y (by simp [hy])), Nat.succ_mul, List.drop_append, hx, Nat.add_sub_cancel, List.drop_of_length_le (l := x) (by omega), List.nil_append]
theorem inserted_ok {V : View} (hS : SRel p cq V) {b e es n m i : Nat} {rows new : List (List PV)} {l : Loc} {cs vs : List Value} {x : Ending} {w' : World}
    (ho : V.σ[b]? = some (.pv e rows false)) (hl : V.own[b]? = some l) (hn : rows.length = n) (hm : new.length = m) (hm0 : 0 < m) (hes : 0 < es) (hi : i ≤ n)
    (hwr : ∀ x ∈ rowsAV rows, x.length = es) (hwn : ∀ x ∈ rowsAV new, x.length = es)
    (hc : Par (fun a v => v.oneCell' = true ∧ VRel V a v) (rowsAV rows).flatten cs) (hv : Par (fun a v => v.oneCell' = true ∧ VRel V a v) (rowsAV new).flatten vs) (h : Inserted V.w l.blk es n m i cs vs x w') :
    ∃ u, x = .returned u ∧ Left p cq V (.sl b (n + m)) (V.σ.set b (.pv es (rows.take i ++ new ++ rows.drop i) false)) u w' := by
  obtain ⟨r, c', cc', ct, rfl, h1, h2, h3, h4, h5, h6, h7, h8⟩ := h
  have hbo : b < V.own.length := (List.getElem?_eq_some_iff.1 hl).1
  have hbσ : b < V.σ.length := (List.getElem?_eq_some_iff.1 ho).1
  have hlen : (rows.take i ++ new ++ rows.drop i).length = n + m := by simp [hn, hm]; omega
  have hR : rowsAV (rows.take i ++ new ++ rows.drop i) = (rowsAV rows).take i ++ rowsAV new ++ (rowsAV rows).drop i := by simp [rowsAV, List.map_take, List.map_drop]
  have hwide : ∀ x ∈ rowsAV (rows.take i ++ new ++ rows.drop i), x.length = es := by
    intro x hx
    rw [hR] at hx
    rcases List.mem_append.1 hx with hx | hx
    · rcases List.mem_append.1 hx with hx | hx
      · exact hwr x (List.mem_of_mem_take hx)
      · exact hwn x hx
    · exact hwr x (List.mem_of_mem_drop hx)
  have hfl : (rowsAV (rows.take i ++ new ++ rows.drop i)).flatten = (rowsAV rows).flatten.take (i * es) ++ (rowsAV new).flatten ++ (rowsAV rows).flatten.drop (i * es) := by
    rw [hR, List.flatten_append, List.flatten_append, flatten_take _ _ hwr, flatten_drop _ _ hwr]
  have hp := ((hc.take (i * es)).append hv).append (hc.drop (i * es))
  rw [← hfl] at hp
  have key := hS.turn (l' := ⟨some r, c'⟩) (o' := .pv es (rows.take i ++ new ++ rows.drop i) false) (w' := w') hl ho rfl (by
      simp only [Obj.sh, Sh.le, hlen, hn]
      right
      omega) h2 h3 (fun q hq hne => h4 q hq hne) (fun r' _ hr => by
        simp only [Option.some.injEq] at hr
        subst hr
        exact h5) (fun ee => by
        refine ((rows?_rel (o := .pv es (rows.take i ++ new ++ rows.drop i) false) rfl).2.2 p cq _ _).2 ⟨hwide, by rw [rowsAV_length, hlen]; exact h1, by simp, by omega, fun q hq => ?_⟩
        simp only [Option.some.injEq] at hq
        subst hq
        refine ⟨cc', ct, h6, h7, fun k a ha => ?_⟩
        obtain ⟨v, v1, v2, v3⟩ := hp.2 k a ha
        have hk : k < (n + m) * es := by
          have := (List.getElem?_eq_some_iff.1 ha).1
          rw [flatten_length hwide, rowsAV_length, hlen] at this
          exact this
        exact ⟨v, by rw [h8 k hk]; exact v1, v2, v3.mono ee⟩)
  refine ⟨_, rfl, _, _, key.1, ?_, key.2⟩
  refine .sl _ _ _ _ (.vec es (n + m)) (by simp only [View.sh, List.getElem?_set_self hbσ, Option.map_some, Obj.sh, hlen]) (fun es' m' h => by cases h; exact Nat.le_refl _) (fun es' l'' _ hl'' => ?_)
  simp only [List.getElem?_set_self hbo, Option.some.injEq] at hl''
  subst hl''
  exact ⟨fun _ => rfl, rfl⟩
end Go.AE
namespace Go.Proofs.Ytncolifaemncbaa
open Go Go.AE Go.AE.S
theorem ins_name : (Try.f64.name == "runtime.NumGoroutine") = false := by kernel_rfl
theorem ins_body : Try.f64.body.isNone = false := by kernel_rfl
theorem run_ins (args : Array Value) (w : World) : (callFunc f_slices_Insert_api_Var_api_Var args).run Try.prog w = .ok (.enter f_slices_Insert_api_Var_api_Var args) w := by
  have h : Try.prog.funcs[f_slices_Insert_api_Var_api_Var]? = some Try.f64 := Try.func64
  have h1 : ¬ Try.f64.name = "runtime.NumGoroutine" := by simpa using ins_name
  have h2 : ¬ Try.f64.body = none := by have := ins_body; intro h; rw [h] at this; cases this
  simp [callFunc, h, h1, h2]
theorem ins_fact {args : List AV} {σ σ' : Store} {v : AV} (h : primIns 2 24 args σ = some (v, σ')) : CallFact Try.prog cq f_slices_Insert_api_Var_api_Var args σ v σ' := by
  refine .inr ⟨rfl, fun own ok w us hS hrel => ?_⟩
  unfold primIns at h
  split at h
  rotate_left
  · cases h
  rename_i b n i c m
  split at h
  rotate_left
  · cases h
  rename_i e rows e' new fz ho hoc
  split at h
  rotate_left
  · cases h
  rename_i hcond
  obtain ⟨hn, hm, hbc, he, rfl, hm0, hi0, hin, hbig⟩ := hcond
  simp only [Option.some.injEq, Prod.mk.injEq] at h
  obtain ⟨rfl, rfl⟩ := h
  rw [run_ins]
  match us, hrel.len with
  | [x, y, z], _ =>
  have hx := hrel.rel 0 _ x rfl rfl
  have hy := hrel.rel 1 _ y rfl rfl
  have hz := hrel.rel 2 _ z rfl rfl
  obtain ⟨l, hl⟩ := hS.own_of ho
  obtain ⟨lc, hlc⟩ := hS.own_of hoc
  obtain ⟨s1, s2, s3⟩ := rows?_rel (o := .pv e rows false) rfl
  obtain ⟨t1, t2, t3⟩ := rows?_rel (o := .pv 2 new fz) rfl
  have hvec := (s3 Try.prog cq _ l).1 (hS.obj b l _ hl ho)
  have hvecc := (t3 Try.prog cq _ lc).1 (hS.obj c lc _ hlc hoc)
  have hyv : y = .int .i64 i := by
    cases hy with
    | p h => cases h; rfl
  subst hyv
  have hxv : ∃ ba, x = .slice ba n l.cap ∧ (l.cap ≠ 0 → ba = l.addr) := by
    cases hx with
    | sl _ _ ba c' sh hs hnn hp =>
      have hs' : sh = .vec e n := by
        have : sh = .vec e (rowsAV rows).length := by rw [← s1]; simpa [View.sh, ho] using hs.symm
        rw [this, rowsAV_length, hn]
      obtain ⟨q1, rfl⟩ := hp e l hs' hl
      exact ⟨ba, rfl, q1⟩
  have hzv : ∃ bc, z = .slice bc m lc.cap ∧ (lc.cap ≠ 0 → bc = lc.addr) := by
    cases hz with
    | sl _ _ ba c' sh hs hnn hp =>
      have hs' : sh = .vec 2 m := by
        have : sh = .vec 2 (rowsAV new).length := by rw [← t1]; simpa [View.sh, hoc] using hs.symm
        rw [this, rowsAV_length, hm]
      obtain ⟨q1, rfl⟩ := hp 2 lc hs' hlc
      exact ⟨ba, rfl, q1⟩
  obtain ⟨ba, rfl, hba⟩ := hxv
  obtain ⟨bc, rfl, hbcc⟩ := hzv
  have hcapc := hvecc.cap
  rw [rowsAV_length, hm] at hcapc
  have hbc' := hbcc (by omega)
  subst hbc'
  obtain ⟨vb, hvb⟩ : ∃ vb, lc.blk = some vb := by
    cases hb : lc.blk with
    | none => have := hvecc.nil hb; omega
    | some r => exact ⟨r, rfl⟩
  obtain ⟨vcc, vt, hvh, hvs, hvc⟩ := hvecc.cells vb hvb
  have haddr : lc.addr = some ⟨vb, 0, none⟩ := by simp [Loc.addr, hvb]
  rw [haddr]
  have hwn := hvecc.wide
  have hnfl := flatten_length hwn
  rw [rowsAV_length, hm] at hnfl
  have hvbound : m * 2 ≤ vcc.size := by rw [hvs]; exact Nat.mul_le_mul_right _ hcapc
  obtain ⟨vs, hvsd⟩ : ∃ vs, vs = vcc.toList.take (m * 2) := ⟨_, rfl⟩
  have hvl : vs.length = m * 2 := by rw [hvsd]; simp; omega
  have hvg : ∀ (j : Nat) (v : Value), vs[j]? = some v → vcc[j]? = some v := fun j v hj => by
    rw [hvsd, List.getElem?_take] at hj
    split at hj
    · simpa using hj
    · cases hj
  have hvg' : ∀ k, k < m * 2 → vs[k]? = vcc[k]? := fun k hk => by rw [hvsd, List.getElem?_take, if_pos hk]; simp
  have hvcell : ∀ (j : Nat) (v : Value), vs[j]? = some v → w.cell? ⟨vb, j, none⟩ = some v := fun j v hj => by
    rw [cell_row hvh]; exact hvg j v hj
  have hpv : Par (fun a v => v.oneCell' = true ∧ VRel ⟨own, σ, ok, w⟩ a v) (rowsAV new).flatten vs := ⟨by rw [hnfl, hvl], fun k a ha => by
    have hk := (List.getElem?_eq_some_iff.1 ha).1
    obtain ⟨v, v1, v2, v3⟩ := hvc k a ha
    exact ⟨v, by rw [hvg' k (by omega)]; exact v1, v2, v3⟩⟩
  have one : ∀ {rs : List (List AV)} {us : List Value}, Par (fun a v => v.oneCell' = true ∧ VRel ⟨own, σ, ok, w⟩ a v) rs.flatten us → ∀ v ∈ us, v.oneCell' = true := fun hp v hv => by
    obtain ⟨k, hk⟩ := List.getElem?_of_mem hv
    have hkl := (List.getElem?_eq_some_iff.1 hk).1
    rw [← hp.1] at hkl
    obtain ⟨v', v1, v2, _⟩ := hp.2 k _ (List.getElem?_eq_getElem hkl)
    rw [hk, Option.some.injEq] at v1
    subst v1
    exact v2
  have h1v := one hpv
  have hcap := hvec.cap
  rw [rowsAV_length, hn] at hcap
  obtain ⟨j, rfl⟩ : ∃ j : Nat, i = j := ⟨i.toNat, by omega⟩
  rw [Int.toNat_natCast] at hin ⊢
  by_cases hcap0 : l.cap = 0
  · have hn0 : n = 0 := by omega
    subst hn0
    have hr0 : rows = [] := List.length_eq_zero_iff.1 hn
    subst hr0
    have hj0 : j = 0 := by omega
    subst hj0
    rw [hcap0]
    have hcall := ins_end_grow ba l.blk 0 0 m vb lc.cap [] vs w hm0 (Nat.le_refl _) (by omega) hbig rfl hvl firstCells_zero (.inl ⟨rfl, rfl⟩) hvcell
    exact callsIn_wide.2 (hcall.mono fun x w' hI => inserted_ok hS ho hl rfl hm hm0 (by decide) (Nat.le_refl _) (by simp [rowsAV]) hwn ⟨rfl, by simp [rowsAV]⟩ hpv hI)
  · have he2 : e = 2 := by
      rcases he with h | ⟨h, h'⟩
      · exact h
      · exact absurd (hvec.hole h (by simp [rowsAV, List.isEmpty_iff.1 h'])) hcap0
    subst he2
    obtain ⟨r, hr⟩ : ∃ r, l.blk = some r := by
      cases hb : l.blk with
      | none => exact absurd (hvec.nil hb) hcap0
      | some r => exact ⟨r, rfl⟩
    obtain ⟨cc, ct, hh, hs, hcc⟩ := hvec.cells r hr
    have haddr : l.addr = some ⟨r, 0, none⟩ := by simp [Loc.addr, hr]
    have := hba hcap0
    subst this
    rw [haddr]
    have hwr := hvec.wide
    have hrfl := flatten_length hwr
    rw [rowsAV_length, hn] at hrfl
    have hcbound : n * 2 ≤ cc.size := by rw [hs]; exact Nat.mul_le_mul_right _ hcap
    obtain ⟨cs, hcsd⟩ : ∃ cs, cs = cc.toList.take (n * 2) := ⟨_, rfl⟩
    have hcl : cs.length = n * 2 := by rw [hcsd]; simp; omega
    have hcg : ∀ (j : Nat) (v : Value), cs[j]? = some v → cc[j]? = some v := fun j v hj => by
      rw [hcsd, List.getElem?_take] at hj
      split at hj
      · simpa using hj
      · cases hj
    have hcg' : ∀ k, k < n * 2 → cs[k]? = cc[k]? := fun k hk => by rw [hcsd, List.getElem?_take, if_pos hk]; simp
    have hpc : Par (fun a v => v.oneCell' = true ∧ VRel ⟨own, σ, ok, w⟩ a v) (rowsAV rows).flatten cs := ⟨by rw [hrfl, hcl], fun k a ha => by
      have hk := (List.getElem?_eq_some_iff.1 ha).1
      obtain ⟨v, v1, v2, v3⟩ := hcc k a ha
      exact ⟨v, by rw [hcg' k (by omega)]; exact v1, v2, v3⟩⟩
    have h1c := one hpc
    have hne : vb ≠ r := by
      intro hx
      subst hx
      exact hbc (hS.one b c vb ⟨l, _, hl, ho, s2, hr⟩ ⟨lc, _, hlc, hoc, t2, hvb⟩)
    have fin : ∀ x w', Inserted w (some r) 2 n m j cs vs x w' → _ := fun x w' hI => inserted_ok (x := x) (w' := w') hS ho hl hn hm hm0 (by decide) hin hwr hwn hpc hpv (by rw [hr]; exact hI)
    refine callsIn_wide.2 (Calls.mono ?_ fin)
    by_cases hroom : n + m ≤ l.cap
    · by_cases hjn : j = n
      · subst hjn
        exact ins_end_room r j l.cap m vb lc.cap cs vs cc ct w hm0 hroom hbig hcl hvl hh hs hcg hvcell h1v
      · exact ins_shift r n l.cap j m vb lc.cap cs vs cc vcc ct vt w (by omega) hm0 hroom hbig hne hcl hvl hh hs hcg hvh hvg h1c h1v
    · by_cases hjn : j = n
      · subst hjn
        exact ins_end_grow _ (some r) j l.cap m vb lc.cap cs vs w hm0 hcap (by omega) hbig hcl hvl (run_firstCells_some w.drew 2 j ⟨r, 0, none⟩ j l.cap cs hcl (fun k v hk => by rw [addr_add, cell_row (show w.drew.heap[r]? = some (.cells cc ct (0, 0)) from hh), Nat.zero_add]; exact hcg k v hk)) (.inr ⟨r, rfl⟩) hvcell
      · exact ins_grow r n l.cap j m vb lc.cap cs vs cc vcc ct vt w (by omega) hm0 hcap (by omega) hbig hcl hvl hh hcg hvh hvg h1c h1v
end Go.Proofs.Ytncolifaemncbaa
/- Two laws' rows: Check and At of the program return what the reference returns. -/
namespace Go.Proofs.Ytncolifaemncbaa
open Go Go.AE Go.AE.S
open Go.ChangeShapes Go.WideShapes Go.ChangeAt Go.RowKit
theorem progOk : ProgOk Try.prog cq P where
  fn f fn h := tbl_ok (f, fn) (lookup_mem h)
  imp f fn h hi := by
    have := List.all_eq_true.1 tbl_imp (f, fn) (lookup_mem h)
    simp only [hi, Bool.not_true, Bool.false_or, Bool.not_eq_true'] at this
    exact this
  prim f g h args σ v σ' hg := by
    unfold P at h
    simp only at h
    split at h
    · rename_i he
      subst he
      cases h
      exact ins_fact hg
    · split at h
      · rename_i he
        subst he
        cases h
        exact compare_fact (fn := Try.f94) Try.func94 (by kernel_rfl) (by kernel_rfl) (by kernel_rfl) (by kernel_rfl) hg
      · cases h
  draw := drawn_ok (by kernel_rfl)
theorem own : ownKnob Try.prog.godebug = none := by kernel_rfl
theorem laid : laidOutB Try.prog = true := by kernel_rfl
noncomputable def fsT : Array Field := match Try.prog.underlying 26 with | some (.struct fs) => fs | _ => #[]
theorem termTy : TermTy Try.prog 26 24 22 3 23 9 fsT := ⟨by kernel_rfl, by kernel_rfl, Try.underlying22, Try.underlying3, Try.underlying23, Try.underlying9, Try.underlying24⟩
def L : List TypeId := [26, 24, 22, 3, 23, 9, 4]
theorem read : readOk Try.prog L = true := by kernel_rfl
theorem agg26 : tyAgg Try.prog 26 = some true := by kernel_rfl
theorem agg4 : tyAgg Try.prog 4 = some false := by kernel_rfl
theorem agg3 : tyAgg Try.prog 3 = some false := by kernel_rfl
theorem arg_T (t : Term) : argOf Try.prog 26 t.row = .agg t.row := by unfold argOf; rw [agg26]; rfl
theorem arg_b (b : Bool) : argOf Try.prog 4 [.bool b] = .bool b := by unfold argOf; rw [agg4]; rfl
theorem arg_i (n : Int) : argOf Try.prog 3 [.int .i64 n] = .int .i64 n := by unfold argOf; rw [agg3]; rfl
def zeroT : Value := .agg #[.int .i64 0, .int .i64 0, .int .u64 0, .string "".toUTF8, .slice none 0 0]

theorem checks_law : ∀ cs, AllTy Try.prog Try.f3.params.toList cs → R P f_law24_PatternChecks (argsOf Try.prog Try.f3.params.toList cs) = some (.bool true) := by
  intro cs h
  have hp : Try.f3.params.toList = [26, 4] := by rw [Try.params3]
  rw [hp] at h ⊢
  match cs, h with
  | [c0, c1], ⟨h0, h1, _⟩ =>
    obtain ⟨t, rfl, ht⟩ := (inv_terms termTy h0).1 rfl
    obtain ⟨b, rfl⟩ := inv_bool Try.underlying4 h1
    simp only [argsOf, arg_T, arg_b]
    exact p_PatternChecks t ht b
set_option maxRecDepth 100000 in
theorem checks_lifted (os : Os) (started : os.Started) (H : Type) (enc : TypeId × Value → H) :
    ReturnsInHanded {} Try.checked os 3 .any (Rows.patternChecksSpec.pre6 enc Try.prog Try.f3 Rows.patternChecksRow.domain false) (Rows.patternChecksSpec.post enc Try.prog Try.f3 false true false false) :=
  law_lifted (C := Try.checked) progOk read laid own Try.func3 (by kernel_rfl)
    (fun t ht => by have : Try.f3.params.toList = [26, 4] := by rw [Try.params3]
                    rw [this] at ht; revert t; decide)
    (fun t ht => by have : Try.f3.params.toList = [26, 4] := by rw [Try.params3]
                    rw [this] at ht
                    rcases List.mem_cons.1 ht with rfl | ht
                    · exact ⟨by kernel_rfl, of_decide_eq_true (by kernel_rfl)⟩
                    · rcases List.mem_cons.1 ht with rfl | ht
                      · exact ⟨by kernel_rfl, of_decide_eq_true (by kernel_rfl)⟩
                      · simp at ht)
    (tb := 4) (by kernel_rfl) Try.underlying4 rfl
    (fun H ds hl => by
      have : Try.f3.params.toList = [26, 4] := by rw [Try.params3]
      rw [this] at hl
      match ds, hl with
      | [d1, d2], _ => rfl)
    checks_law started
    (ChangeSpec.witness6 (enc := enc) (C := Try.checked) false ⟨#[], #[zeroT, .bool false], []⟩ 8 (by kernel_rfl) (by kernel_rfl) (by kernel_rfl) (by kernel_rfl))
theorem PatternChecks_holds : Rows.PatternChecksSaid :=
  OpenClaim.holds_of_wide 3 Try.f3 rfl rfl rfl rfl rfl rfl rfl ⟨rfl, rfl, rfl, rfl, rfl⟩ rfl rfl rfl rfl rfl (by kernel_rfl) Try.func3 (by kernel_rfl)
    (of_decide_eq_true (by kernel_rfl)) (by unfold Func.isWrapper; first | (rw [if_pos (by decide +kernel)]; kernel_rfl) | (rw [if_neg (by decide +kernel)]; exact ⟨rfl, rfl⟩))
    (fun os started H enc _ => checks_lifted os started H enc)
end Go.Proofs.Ytncolifaemncbaa
