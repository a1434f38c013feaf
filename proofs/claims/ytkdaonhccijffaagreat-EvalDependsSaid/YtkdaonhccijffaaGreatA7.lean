/- A law's row, joined; the slices among the arguments take no more room than the form's reach. -/
import Derived.Test.YtkdaonhccijffaaGreatA6
namespace Go.AE
open Go.RowKit Go.ChangeShapes Go.WideShapes Go.ChangeAt
variable {cq : FuncId → Bool}
/-- A slice's places take at most the form's reach. -/
def SzOk (P : Program) (t : TypeId) (c : List PV) : Prop := ∀ e rows, P.underlying t = some (.slice e) → c = [.lst rows] → rows.length * P.bytesOf e ≤ reachBytes
def AllSz (P : Program) : List TypeId → List (List PV) → Prop
  | t :: ts, c :: cs => SzOk P t c ∧ AllSz P ts cs
  | _, _ => True
theorem slice_sized {H : Type} {enc : TypeId × Value → H} {P : Program} {W : World} {ok : Nat → Prop} {t e : TypeId} (hu : P.underlying t = some (.slice e)) {rows : List (List PV)} {v : Value} {d : DataW H} {ps : List MemPlace} {base : Nat} {sp : Nat → Bool} {hd : Bool} :
    ∀ {fuel : Nat}, DataW.trod enc P W base sp hd fuel t v.cells.toList = some (d, ps) → PRel W ok (.lst rows) v → (d.weights P t).all (· ≤ reachBytes) = true → rows.length * P.bytesOf e ≤ reachBytes
  | 0, h, _, _ => by cases h
  | fuel + 1, h, hr, hw => by
    cases hr with
    | lst0 a c => simp
    | lst _ r off c es cv hne hok hc hes hcell hone hh =>
      have hcells : (Value.slice (some ⟨r, off, none⟩) rows.length c).cells.toList = [Value.slice (some ⟨r, off, none⟩) rows.length c] := rfl
      rw [hcells] at h
      unfold DataW.trod at h
      rw [hu] at h
      simp only at h
      split at h
      · simp only [Option.bind_eq_some_iff, Option.map_eq_some_iff, Prod.mk.injEq] at h
        obtain ⟨elems, hel, rest, _, rfl, _⟩ := h
        have hlen : elems.length = rows.length := by have := mapM_some_length hel; simpa using this
        simp only [DataW.weights, hu, List.all_cons, Bool.and_eq_true, decide_eq_true_eq, List.length_map] at hw
        refine Nat.le_trans (Nat.mul_le_mul_right _ ?_) hw.1
        omega
      · cases h
theorem args_sized {H : Type} {enc : TypeId × Value → H} {P : Program} {W : World} {L : List TypeId} (hL : readOk P L = true) {base : Nat} : ∀ {ts : List TypeId} {vs : List Value} {ds : List (DataW H)} {ps : List MemPlace}, (∀ t ∈ ts, t ∈ L) → (∀ (j : Nat) t v, ts[j]? = some t → vs[j]? = some v → Value.okWide P W .any base t v) →
    DataW.TrodAll enc P W 0 (fun _ => true) true ts vs ds ps → (DataW.weightsEach P ts ds).all (· ≤ reachBytes) = true → ∃ cs, AllTy P ts cs ∧ (argsOf P ts cs).length = vs.length ∧ (∀ (i : Nat) (q : PV) (v : Value), (argsOf P ts cs)[i]? = some q → vs[i]? = some v → PRel W (fun b => b < W.heap.size) q v) ∧ AllSz P ts cs
  | [], vs, ds, ps, _, _, h, _ => by
    obtain ⟨rfl, rfl, rfl⟩ := trodAll_nil h
    exact ⟨[], trivial, rfl, by simp [argsOf], trivial⟩
  | t :: ts, vs0, ds0, ps0, ht, hv, h, hw => by
    obtain ⟨v, vs, d, ds, p, q, rfl, rfl, rfl, ⟨fuel, h1⟩, h2⟩ := trodAll_cons h
    rw [DataW.weightsEach, List.all_append, Bool.and_eq_true] at hw
    obtain ⟨c, c1, c2⟩ := read_ok hL fuel t _ _ _ (ht t (by simp)) h1
    obtain ⟨cs, k1, k2, k3, k4⟩ := args_sized hL (fun t' h' => ht t' (by simp [h'])) (fun j t' v' a b => hv (j + 1) t' v' (by simpa using a) (by simpa using b)) h2 hw.2
    refine ⟨c :: cs, ⟨c1, k1⟩, by simp [argsOf, k2], fun i q v' hq hv' => ?_, ⟨fun e rows hu hc => ?_, k4⟩⟩
    · cases i with
      | zero =>
        simp only [argsOf, List.getElem?_cons_zero, Option.some.injEq] at hq hv'
        subst hq; subst hv'
        exact arg_rel (hv 0 t _ rfl rfl) c1 c2
      | succ i => exact k3 i q v' (by simpa [argsOf] using hq) (by simpa using hv')
    · subst hc
      have := arg_rel (hv 0 t _ rfl rfl) c1 c2
      have ha : argOf P t [.lst rows] = .lst rows := by
        unfold argOf tyAgg
        rw [hu]
        rfl
      rw [ha] at this
      exact slice_sized hu h1 this hw.1
theorem law_sized {C : Checked} {Pg : Prog} (hP : ProgOk C.prog cq Pg) {L : List TypeId} (hL : readOk C.prog L = true) (hl : laidOutB C.prog = true) (own : ownKnob C.prog.godebug = none)
    {f : FuncId} {fn : Func} (hfn : C.prog.funcs[f]? = some fn) (noInit : C.prog.inits.idxOf? f = none)
    (hin : ∀ t ∈ fn.params.toList, t ∈ L) (hrd : ∀ t ∈ fn.params.toList, C.prog.readableRec t = true ∧ t < C.prog.types.size) {tb : TypeId} (hres : fn.resultTypes = #[tb]) (htb : C.prog.underlying tb = some .bool)
    {s : ChangeSpec} (hvars : s.vars = []) (hs : ∀ (H : Type) (ds : List (DataW H)), ds.length = fn.params.toList.length → s.fn H ds = { results := [.lit (.bool true)], args := ds })
    (law : ∀ cs, AllTy C.prog fn.params.toList cs → AllSz C.prog fn.params.toList cs → R Pg f (argsOf C.prog fn.params.toList cs) = some (.bool true))
    {os : Os} (started : os.Started) {H : Type} {enc : TypeId × Value → H} {a : Assume} {conds : List PathCond} {apart fresh handsOn again : Bool}
    (witness : ∃ (w : World) (tape : Tape) (i : Input), w.os = os ∧ (w.forCall tape i).Shaped C.prog ∧ i.vars = [] ∧ Input.okWide C.prog (w.forCall tape i) .any w.heap.size f i ∧
      s.pre6 enc C.prog fn conds apart (w.forCall tape i).memory i.args ∧ a.holds C.prog (lone (Frame.enter C.prog f i.args .normal) [] (w.forCall tape i))) :
    ReturnsInHanded a C os f .any (s.pre6 enc C.prog fn conds apart) (s.post enc C.prog fn apart fresh handsOn again) := by
  refine returnsInHanded_of_change_sized own started noInit hfn witness ?_
  intro W base args ds gs before hval hW _ hsz _
  have hW' := hW
  obtain ⟨p, q, hA, hV, rfl, hfz, hnd⟩ := hW
  rw [hvars] at hV
  obtain ⟨rfl, rfl⟩ : gs = [] ∧ q = [] := by
    cases gs with
    | nil => exact ⟨rfl, hV⟩
    | cons a r => exact hV.elim
  have hval' : ∀ (j : Nat) t v, fn.params.toList[j]? = some t → args.toList[j]? = some v → Value.okWide C.prog W .any base t v := fun j t v h1 h2 => hval j t v (by simpa using h1) (by simpa using h2)
  have hvt : s.plain.varTypes C.prog = [] := by
    have : s.plain.vars = [] := hvars
    simp [DataSpec.varTypes, this]
  rw [hvt, List.append_nil, List.append_nil] at hsz
  obtain ⟨cs, c1, c2, c3, c4⟩ := args_sized hL hin hval' hA (by simpa using hsz)
  have hlen : ds.length = fn.params.toList.length := by
    have key : ∀ {ts : List TypeId} {vs : List Value} {ds : List (DataW H)} {ps : List MemPlace}, DataW.TrodAll enc C.prog W 0 (fun _ => true) true ts vs ds ps → ds.length = ts.length := by
      intro ts
      induction ts with
      | nil => intro vs ds ps h; obtain ⟨_, rfl, _⟩ := trodAll_nil h; rfl
      | cons t ts ih => intro vs ds ps h; obtain ⟨v, vs', d, ds', p, q, rfl, rfl, rfl, _, h2⟩ := trodAll_cons h; simp [ih h2]
    exact key hA
  have hcall := R_calls hP (law cs c1 c4) (W := W) (vs := args.toList) c2 c3
  have hargs : args.toList.toArray = args := by simp
  rw [hargs] at hcall
  refine hcall.mono ?_
  rintro e W' ⟨u, he, hb, ok, hu⟩
  cases hu with
  | bool =>
  refine ⟨_, he, ?_⟩
  have hlt : ∀ x ∈ p, x.block < W.heap.size := fun x hx => hW'.lt x (by simp [hx])
  have hspec : s.fn H (ds ++ []) = { results := [.lit (.bool true)], args := ds } := by rw [List.append_nil]; exact hs H ds hlen
  have hresT : ∀ (b : Nat) (sp : Nat → Bool) (hd : Bool), DataW.TrodAll enc C.prog W' b sp hd fn.resultTypes.toList ((Value.bool true).resultList fn.resultTypes.size) [.lit (.bool true)] [] := by
    intro b sp hd
    rw [hres]
    exact ⟨[], [], ⟨1, by simp [DataW.trod, htb, Value.cells]⟩, rfl, rfl⟩
  have hstay := fun sp h => args_stay hl hb hrd hlt hA sp h
  refine ⟨ds, [], p ++ [], [], p, [], hW', ?_, ?_, ?_, ?_, fun _ => ?_⟩
  · rw [hspec]; exact hresT _ _ _
  · rw [hspec]; exact hstay _ fun x hx => by simpa using hlt x hx
  · rw [hvars, hspec]; rfl
  · refine World.keptBut_mono (fun x hx => ⟨hx, .inr (.inl (by simpa using hx))⟩) (hb.frame (· ∈ p ++ []))
  · refine ⟨?_, [.lit (.bool true)] ++ ds, [], ([] ++ p) ++ [], ⟨[] ++ p, [], trodAll_append (hstay (fun _ => true) fun _ _ => rfl) (hresT _ _ _), (by rw [hvars]; rfl), rfl, ?_, ?_⟩, ?_⟩
    · intro j t r h1 h2
      rw [hres] at h1 h2
      match j, h1, h2 with
      | 0, h1, h2 =>
        simp [Value.resultList] at h1 h2
        subst h1; subst h2
        simp [Value.okWide, htb, Cell.okWide, Cell.ok]
    · intro b off hx
      have hx' : MemPlace.cell b off ∈ p := by simpa using hx
      rw [hb.frozen (hlt _ hx')]
      exact hfz b off (by simpa using hx')
    · intro ha; simpa using hnd ha
    · intro x hx _; simpa using hx
end Go.AE
