/- The sort of variables, as the library's contract tells it. -/
import Derived.Test.YthljaicehpdkbaaZj
import Derived.Test.YthljaicehpdkbaaC4
import Derived.Shelf.SlSortCmp.NoneTotal
import Derived.Shelf.Small.Strs
import Derived.WalkKit
namespace Go.Proofs.Ythljaicehpdkbaa
open Go Go.AE Go.AE.S Go.Proofs
open Go.Shelf Go.RowKit Go.Lib Go.Sort
def sortVar_ren : Go.Shelf.Ren := ⟨fun | 6 => 54 | 15 => 83 | 14 => 82 | 28 => 108 | 29 => 109 | 20 => 100 | 21 => 101 | 22 => 102 | 23 => 103 | 24 => 104 | 25 => 105 | 26 => 106 | 27 => 107 | 46 => 112 | 47 => 113 | 48 => 114 | 49 => 115 | 50 => 116 | 57 => 117 | n => n, fun | 22 => 34 | 24 => 60 | 25 => 70 | 3 => 3 | 39 => 89 | 0 => 0 | 53 => 104 | 55 => 23 | 4 => 4 | 46 => 98 | 45 => 97 | 50 => 61 | 5 => 5 | 9 => 9 | 66 => 108 | 70 => 112 | 76 => 114 | 77 => 115 | n => n, fun | n => n⟩
theorem sortVar : Go.Proofs.SlLaysF0.n6 Try.prog sortVar_ren := {
  mixed := by kernel_rfl,
  f6 := ⟨Try.f54.name, by decide, Try.func54.trans (congrArg some (by kernel_rfl))⟩,
  f14 := ⟨Try.f82.name, by decide, Try.func82.trans (congrArg some (by kernel_rfl))⟩,
  f15 := Try.func83.trans (congrArg some (by kernel_rfl)),
  f20 := ⟨Try.f100.name, by decide, Try.func100.trans (congrArg some (by kernel_rfl))⟩,
  f21 := ⟨Try.f101.name, by decide, Try.func101.trans (congrArg some (by kernel_rfl))⟩,
  f22 := ⟨Try.f102.name, by decide, Try.func102.trans (congrArg some (by kernel_rfl))⟩,
  f23 := ⟨Try.f103.name, by decide, Try.func103.trans (congrArg some (by kernel_rfl))⟩,
  f24 := ⟨Try.f104.name, by decide, Try.func104.trans (congrArg some (by kernel_rfl))⟩,
  f25 := ⟨Try.f105.name, by decide, Try.func105.trans (congrArg some (by kernel_rfl))⟩,
  f26 := ⟨Try.f106.name, by decide, Try.func106.trans (congrArg some (by kernel_rfl))⟩,
  f27 := ⟨Try.f107.name, by decide, Try.func107.trans (congrArg some (by kernel_rfl))⟩,
  f28 := Try.func108.trans (congrArg some (by kernel_rfl)),
  f29 := Try.func109.trans (congrArg some (by kernel_rfl)),
  f46 := ⟨Try.f112.name, by decide, Try.func112.trans (congrArg some (by kernel_rfl))⟩,
  f47 := Try.func113.trans (congrArg some (by kernel_rfl)),
  f48 := Try.func114.trans (congrArg some (by kernel_rfl)),
  f49 := ⟨Try.f115.name, by decide, Try.func115.trans (congrArg some (by kernel_rfl))⟩,
  f50 := ⟨Try.f116.name, by decide, Try.func116.trans (congrArg some (by kernel_rfl))⟩,
  f57 := ⟨Try.f117.name, by decide, Try.func117.trans (congrArg some (by kernel_rfl))⟩,
  t0 := Try.underlying0,
  a0 := Try.isAgg0,
  z0 := Try.sizeOf0,
  v0 := Try.zeroValue0,
  t3 := Try.underlying3,
  a3 := Try.isAgg3,
  z3 := Try.sizeOf3,
  v3 := Try.zeroValue3,
  t4 := Try.underlying4,
  a4 := Try.isAgg4,
  z4 := Try.sizeOf4,
  v4 := Try.zeroValue4,
  t5 := Try.underlying5,
  a5 := Try.isAgg5,
  z5 := Try.sizeOf5,
  v5 := Try.zeroValue5,
  t9 := Try.underlying9,
  a9 := Try.isAgg9,
  z9 := Try.sizeOf9,
  v9 := Try.zeroValue9,
  t22 := Try.underlying34,
  a22 := Try.isAgg34,
  z22 := Try.sizeOf34,
  v22 := Try.zeroValue34,
  t25 := Try.underlying70,
  a25 := Try.isAgg70,
  z25 := Try.sizeOf70,
  v25 := Try.zeroValue70,
  t39 := Try.underlying89,
  a39 := Try.isAgg89,
  z39 := Try.sizeOf89,
  v39 := Try.zeroValue89,
  t45 := Try.underlying97,
  a45 := Try.isAgg97,
  z45 := Try.sizeOf97,
  v45 := Try.zeroValue97,
  t46 := Try.underlying98,
  a46 := Try.isAgg98,
  z46 := Try.sizeOf98,
  v46 := Try.zeroValue98,
  t50 := Try.underlying61,
  a50 := Try.isAgg61,
  z50 := Try.sizeOf61,
  v50 := Try.zeroValue61,
  t53 := Try.underlying104,
  a53 := Try.isAgg104,
  z53 := Try.sizeOf104,
  v53 := Try.zeroValue104,
  t55 := Try.underlying23,
  a55 := Try.isAgg23,
  z55 := Try.sizeOf23,
  v55 := Try.zeroValue23,
  t66 := Try.underlying108,
  a66 := Try.isAgg108,
  z66 := Try.sizeOf108,
  v66 := Try.zeroValue108,
  t70 := Try.underlying112,
  a70 := Try.isAgg112,
  z70 := Try.sizeOf112,
  v70 := Try.zeroValue112,
  t76 := Try.underlying114,
  a76 := Try.isAgg114,
  z76 := Try.sizeOf114,
  v76 := Try.zeroValue114,
  t77 := Try.underlying115,
  a77 := Try.isAgg115,
  z77 := Try.sizeOf115,
  v77 := Try.zeroValue115}

def sortStr_ren : Go.Shelf.Ren := ⟨fun | 106 => 56 | 213 => 84 | 265 => 110 | n => n, fun | 9 => 9 | 3 => 3 | n => n, fun | n => n⟩
theorem sortStr : Go.Proofs.Lays.n106 Try.prog sortStr_ren := {
  mixed := by kernel_rfl,
  f106 := Try.func56.trans (congrArg some (by kernel_rfl)),
  f213 := Try.func84.trans (congrArg some (by kernel_rfl)),
  f265 := Try.func110.trans (congrArg some (by kernel_rfl)),
  t3 := Try.underlying3,
  a3 := Try.isAgg3,
  z3 := Try.sizeOf3,
  v3 := Try.zeroValue3,
  t9 := Try.underlying9,
  a9 := Try.isAgg9,
  z9 := Try.sizeOf9,
  v9 := Try.zeroValue9}
instance : Inhabited V2 := ⟨⟨⟨#[]⟩, 0⟩⟩
def encV (v : V2) : List Value := [.string v.name, .int .i64 v.w]
def cfV (x y : V2) : Int := Lib.compareBytes x.name.data.toList y.name.data.toList
set_option maxHeartbeats 1000000 in
theorem closure_run (x y : V2) (W : World) : Calls Try.prog 55 #[.agg #[.string x.name, .int .i64 x.w], .agg #[.string y.name, .int .i64 y.w]] W fun e w' => e = .returned (.int .i64 (cfV x y)) ∧ ∃ q os', w' = grow (W.drewN q) os' := by
  have hcon := fun W' => Any.strings_Compare sortStr x.name y.name W'
  change ∀ W', Calls Try.prog 56 _ _ _ at hcon
  unfold cfV
  generalize Lib.compareBytes x.name.data.toList y.name.data.toList = r at hcon ⊢
  go_enter Try.func55, Try.ntmps55
  go_wp2_with (go_at_call 56; refine (hcon _).mono ?_; rintro e w' ⟨rfl, rfl⟩)
  go_ret
  exact ⟨rfl, 0, _, by rw [alloc_eq_grow, alloc_eq_grow, grow_grow]; rfl⟩
theorem cf_slt (x y : V2) : ltOf cfV x y = slt x.name y.name := by
  unfold ltOf cfV
  rw [cmp_bytes]
  rcases slt_tri x.name y.name with h | h | h
  · rw [str_lt h, h]; rfl
  · rw [h, str_eq, slt_irrefl]; rfl
  · rw [str_gt h, slt_asym h]; rfl
theorem swoV : SWO (ltOf cfV) where
  irrefl x := by rw [cf_slt, slt_irrefl]
  trans x y z h1 h2 := by rw [cf_slt] at *; exact slt_trans h1 h2
  ntrans x y z h1 h2 := by
    rw [cf_slt] at *
    rcases slt_tri x.name y.name with h | h | h
    · rw [h] at h1; cases h1
    · rw [h]; exact h2
    · rcases slt_tri y.name z.name with h' | h' | h'
      · rw [h'] at h2; cases h2
      · rw [← h']; exact h1
      · exact slt_asym (slt_trans h' h)
theorem cmpLays55 (blk off size : Nat) (w : World) : CmpLays Try.prog 55 #[] encV 2 cfV blk off size w := fun _ _ _ _ x y => closure_run x y _
theorem enters54 (args : Array Value) (w : World) : (callFunc 54 args).run Try.prog w = .ok (.enter 54 args) w := enters_of Try.func54 (by kernel_rfl) rfl _ _
theorem enters55 (args : Array Value) (w : World) : (callFunc 55 args).run Try.prog w = .ok (.enter 55 args) w := enters_of Try.func55 (by kernel_rfl) rfl _ _
/-- A sorted permutation is the sort. -/
theorem sorted_is {l m : List V2} (hd : DistN l) (hp : m.Perm l) (hs : ∀ (i j : Nat) (a b : V2), i < j → m[i]? = some a → m[j]? = some b → slt b.name a.name = false) : m = isort ltN l := by
  have hdm : DistN m := (hp.pairwise_iff (fun h e => h e.symm)).2 hd
  refine sort_uniq (List.pairwise_iff_getElem.2 fun i j hi hj hij => ?_) (isort_sort hd) fun x => ?_
  · have h1 := hs i j m[i] m[j] hij (List.getElem?_eq_getElem hi) (List.getElem?_eq_getElem hj)
    have h2 := List.pairwise_iff_getElem.1 hdm i j hi hj hij
    rcases slt_tri m[i].name m[j].name with h | h | h
    · exact h
    · exact absurd h h2
    · rw [h] at h1; cases h1
  · rw [isort_mem]; exact hp.mem_iff
theorem rows_v : ∀ {rows : List (List PV)}, rows.all okV = true → ∃ l : List V2, rows = l.map vrow
  | [], _ => ⟨[], rfl⟩
  | r :: rows, h => by
    simp only [List.all_cons, Bool.and_eq_true] at h
    obtain ⟨l, rfl⟩ := rows_v h.2
    have h1 := h.1
    unfold okV at h1
    split at h1
    · rename_i s w
      exact ⟨⟨s, w⟩ :: l, rfl⟩
    · cases h1
theorem dist_of : ∀ {l : List V2}, aparts ltV (l.map vrow) = true → DistN l
  | [], _ => by simp [DistN]
  | a :: l, h => by
    simp only [List.map_cons, aparts, Bool.and_eq_true, List.all_map, List.all_eq_true] at h
    refine List.pairwise_cons.2 ⟨fun b hb e => ?_, dist_of h.2⟩
    have : (ltV (vrow a) (vrow b) || ltV (vrow b) (vrow a)) = true := h.1 b hb
    rw [ltV_row, ltV_row, ltN, ltN, e, slt_irrefl] at this
    cases this
end Go.Proofs.Ythljaicehpdkbaa
/- The sort of variables, as a call of the evaluator. -/
namespace Go.AE
theorem set_same {α : Type} {l : List α} {b : Nat} {o : α} (h : l[b]? = some o) : l.set b o = l := by
  apply List.ext_getElem?
  intro k
  by_cases hk : b = k
  · subst hk
    rw [List.getElem?_set_self (List.getElem?_eq_some_iff.1 h).1, h]
  · rw [List.getElem?_set_ne hk]
end Go.AE
namespace Go.Proofs.Ythljaicehpdkbaa
open Go Go.AE Go.AE.S Go.Proofs
open Go.Shelf Go.RowKit Go.Lib Go.Sort
theorem flat_encV (d : Array V2) (k : Nat) (hk : k < d.size * 2) : (flatK encV 2 d)[k]! = if k % 2 = 0 then .string (d[k / 2]!).name else .int .i64 (d[k / 2]!).w := by
  rw [get_flatK _ _ _ _ hk]
  have h2 : k % 2 = 0 ∨ k % 2 = 1 := by omega
  rcases h2 with h | h <;> rw [h] <;> simp [encV]
theorem rows_flat {l : List V2} {k : Nat} {a : AV} (h : (rowsAV (l.map vrow)).flatten[k]? = some a) : k < l.length * 2 ∧ a = if k % 2 = 0 then .p (.str (l.toArray[k / 2]!).name) else .p (.int .i64 (l.toArray[k / 2]!).w) := by
  have hw : ∀ x ∈ rowsAV (l.map vrow), x.length = 2 := by
    intro x hx
    simp only [rowsAV, List.map_map, List.mem_map] at hx
    obtain ⟨v, _, rfl⟩ := hx
    rfl
  have hk := (List.getElem?_eq_some_iff.1 h).1
  rw [flatten_length hw] at hk
  simp only [rowsAV, List.length_map] at hk
  refine ⟨hk, ?_⟩
  obtain ⟨i, j, row, rfl, hi, hj⟩ := flatten_at hw h
  simp only [rowsAV, List.map_map, List.getElem?_map, Option.map_eq_some_iff] at hi
  obtain ⟨v, hv, rfl⟩ := hi
  have hj2 : j < 2 := (List.getElem?_eq_some_iff.1 hj).1
  have e1 : (i * 2 + j) / 2 = i := by omega
  have e2 : l.toArray[i]! = v := by
    have hil := (List.getElem?_eq_some_iff.1 hv)
    rw [getElem!_pos _ _ (by simpa using hil.1)]
    simpa using hil.2
  rw [e1, e2]
  have h2 : j = 0 ∨ j = 1 := by omega
  rcases h2 with rfl | rfl
  · have : (i * 2 + 0) % 2 = 0 := by omega
    rw [this]
    simp [vrow] at hj
    exact hj.symm
  · have : ¬ (i * 2 + 1) % 2 = 0 := by omega
    rw [if_neg this]
    simp [vrow] at hj
    exact hj.symm
theorem cell_holds {V : View} {l : List V2} {c : Array Value} (hc : ∀ (k : Nat) (a : AV), (rowsAV (l.map vrow)).flatten[k]? = some a → ∃ v, c[k]? = some v ∧ v.oneCell' = true ∧ VRel V a v) (k : Nat) (hk : k < l.length * 2) : c[k]? = some ((flatK encV 2 l.toArray)[k]!) := by
  have hlen : (rowsAV (l.map vrow)).flatten.length = l.length * 2 := by
    rw [flatten_length (es := 2) (fun x hx => by
      simp only [rowsAV, List.map_map, List.mem_map] at hx
      obtain ⟨v, _, rfl⟩ := hx
      rfl)]
    simp [rowsAV]
  have hg : (rowsAV (l.map vrow)).flatten[k]? = some (rowsAV (l.map vrow)).flatten[k] := List.getElem?_eq_getElem (by omega)
  obtain ⟨_, ha⟩ := rows_flat hg
  obtain ⟨v, h1, _, h2⟩ := hc k _ hg
  rw [h1, flat_encV _ _ (by simpa using hk)]
  rw [ha] at h2
  split at h2
  · rename_i h0
    rw [if_pos h0]
    cases h2 with
    | p h => cases h; rfl
  · rename_i h0
    rw [if_neg h0]
    cases h2 with
    | p h => cases h; rfl
theorem sorted_list {l : List V2} {d' : Array V2} (hd : DistN l) (hp : PermIn 0 l.toArray.size l.toArray d') (hs : SortedIn (ltOf cfV) 0 l.toArray.size d') : d' = (isort ltN l).toArray := by
  obtain ⟨h1, _, h3⟩ := hp
  have e1 : d'.extract 0 l.toArray.size = d' := by rw [← h1]; simp
  have e2 : l.toArray.extract 0 l.toArray.size = l.toArray := by simp
  rw [e1, e2] at h3
  have : d'.toList = isort ltN l := by
    refine sorted_is hd (by simpa using h3) fun i j a b hij ha hb => ?_
    have hj := (List.getElem?_eq_some_iff.1 hb).1
    have h := hs i j (Nat.zero_le _) hij (by rw [← h1]; simpa using hj)
    rw [cf_slt] at h
    have ea : d'[i]! = a := by
      have hil := List.getElem?_eq_some_iff.1 ha
      rw [getElem!_pos _ _ (by simpa using hil.1)]
      simpa using hil.2
    have eb : d'[j]! = b := by
      have hil := List.getElem?_eq_some_iff.1 hb
      rw [getElem!_pos _ _ (by simpa using hil.1)]
      simpa using hil.2
    rw [ea, eb] at h
    exact h
  rw [← this]
set_option maxRecDepth 100000 in
set_option maxHeartbeats 1000000 in
theorem sort_fact {args : List AV} {σ σ' : Store} {v : AV} (h : primSort 2 f_term_Vars_2 okV ltV args σ = some (v, σ')) : CallFact Try.prog cq f_slices_SortFunc_api_Var_api_Var args σ v σ' := by
  refine .inr ⟨rfl, fun own ok w us hS hrel => ?_⟩
  unfold primSort at h
  split at h
  rotate_left
  · cases h
  rename_i b n f
  split at h
  rotate_left
  · cases h
  rename_i hf
  subst hf
  split at h
  rotate_left
  · cases h
  rename_i e rows ho
  split at h
  rotate_left
  · cases h
  rename_i hcond
  obtain ⟨hn, hbig, he, hok, hap⟩ := hcond
  simp only [Option.some.injEq, Prod.mk.injEq] at h
  obtain ⟨rfl, rfl⟩ := h
  obtain ⟨l, rfl⟩ := rows_v hok
  have hd := dist_of hap
  have hnl : l.length = n := by simpa using hn
  match us, hrel.len with
  | [x, y], _ =>
  have hx := hrel.rel 0 _ x rfl rfl
  have hy := hrel.rel 1 _ y rfl rfl
  obtain ⟨lc, hl⟩ := hS.own_of ho
  have hvec : VecOk ⟨own, σ, ok, w⟩ lc e (rowsAV (l.map vrow)) := hS.obj b lc _ hl ho
  have hyv : y = .func (.func f_term_Vars_2) #[] #[] := by
    cases hy with
    | p h =>
      cases h with
      | fn _ _ vs hl _ =>
        have : vs = [] := List.length_eq_zero_iff.1 (by simpa using hl.symm)
        subst this
        rfl
  subst hyv
  have hxv : ∃ ba, x = .slice ba n lc.cap ∧ (lc.cap ≠ 0 → ba = lc.addr) := by
    cases hx with
    | sl _ _ ba c' sh hs hnn hp =>
      have hs' : sh = .vec e n := by
        have : View.sh ⟨own, σ, ok, w⟩ b = some (.vec e n) := by simp [View.sh, ho, Obj.sh, hnl]
        rw [this] at hs
        exact (Option.some.inj hs).symm
      obtain ⟨q1, rfl⟩ := hp e lc hs' hl
      exact ⟨ba, rfl, q1⟩
  obtain ⟨ba, rfl, hba⟩ := hxv
  show Go.AE.Enters Try.prog _ ((callFunc 54 _).run Try.prog w)
  rw [enters54]
  have hunit : ∀ V : View, VRel V (.p (.tup [])) (.tuple #[]) := fun V => .p (.tup [] [] rfl (by simp))
  by_cases h0 : n = 0
  · subst h0
    have hl0 : l = [] := List.length_eq_zero_iff.1 hnl
    subst hl0
    refine callsIn_wide.2 (Calls.mono (AnyF.slices_SortFunc_none sortVar ba lc.cap (.func (.func 55) #[] #[]) w) ?_)
    rintro e' w' ⟨rfl, rfl⟩
    refine ⟨_, rfl, own, ok, ?_, hunit _, ?_⟩
    · have : σ.set b (.pv e (isort ltV ([].map vrow)) false) = σ := set_same ho
      rw [this]; exact hS
    · have : σ.set b (.pv e (isort ltV ([].map vrow)) false) = σ := set_same ho
      rw [this]; exact Step.refl _
  · have hcap : n ≤ lc.cap := by have := hvec.cap; simpa [rowsAV, hnl] using this
    have hcap0 : lc.cap ≠ 0 := by omega
    have he2 : e = 2 := by
      rcases he with h | h
      · have := congrArg List.length h; simp at this; subst this; exact absurd hnl.symm h0
      · exact h
    subst he2
    obtain ⟨r, hr⟩ : ∃ r, lc.blk = some r := by
      cases hb : lc.blk with
      | none => exact absurd (hvec.nil hb) hcap0
      | some r => exact ⟨r, rfl⟩
    obtain ⟨cc, ct, hh, hs, hcc⟩ := hvec.cells r hr
    have haddr : lc.addr = some ⟨r, 0, none⟩ := by simp [Loc.addr, hr]
    have := hba hcap0
    subst this
    rw [haddr]
    have hrl : r < w.heap.size := (Array.getElem?_eq_some_iff.1 hh).1
    have hcell := cell_holds hcc
    have hH : HoldsK encV 2 w r 0 l.toArray := by
      intro j hj
      have hj' : j < l.length * 2 := by simpa using hj
      refine ⟨?_, ?_⟩
      · rw [Nat.zero_add, cell_row hh, hcell j hj']
        rfl
      · have hhh : w.heap[r]? = some (.cells cc ct (0, 0)) := hh
        simp [World.frozen?, hhh]
    have hcon := AnyQ.slices_SortFunc sortVar 2 Try.isAgg60 Try.sizeOf60 encV (fun _ => rfl) (fun x v hv => by simp [encV] at hv; rcases hv with rfl | rfl <;> rfl) cfV swoV 55 #[] r 0 lc.cap l.toArray w enters55 (cmpLays55 r 0 l.toArray.size w) hH hrl (by simpa [hnl] using hbig)
    have hsz : l.toArray.size = n := by simpa using hnl
    rw [hsz] at hcon
    refine callsIn_wide.2 (Calls.mono hcon ?_)
    rintro e' w' ⟨rfl, d', m, os, hp, hso, rfl⟩
    rw [← hsz] at hp hso
    have hd' := sorted_list hd hp hso
    subst hd'
    have hil : (isort ltN l).length = l.length := by
      have := hp.1
      simpa using this
    have hpk : ∀ q, (sortWorldK encV 2 w r 0 m (isort ltN l).toArray os).heap[q]? = if q < w.heap.size then (w.heap.modify r (onCells (putCells id 0 (flatK encV 2 (isort ltN l).toArray))))[q]? else os[q - w.heap.size]? := by
      intro q
      simp only [sortWorldK, putRowK, grow, putRow, mapBlock, Sort.ahead, Array.getElem?_append, Array.size_modify]
    have key := hS.turn (l' := lc) (o' := .pv 2 (isort ltV (l.map vrow)) false) (w' := sortWorldK encV 2 w r 0 m (isort ltN l).toArray os) hl ho rfl
      (by
        simp only [Obj.sh, Sh.le, isort_map ltV_row, List.length_map, hil]
        exact .inl ⟨trivial, .inr trivial, trivial⟩)
      rfl (by simp [sortWorldK, grow, putRowK, putRow, mapBlock, Sort.ahead]) (fun q hq hne => by
        rw [hpk, if_pos hq, Array.getElem?_modify, if_neg (fun e => hne (by rw [hr, e]))])
      (fun q _ hq => .inl hq) (fun ee => by
        have e9 : rowsAV (isort ltV (l.map vrow)) = rowsAV ((isort ltN l).map vrow) := by rw [isort_map ltV_row]
        show VecOk _ lc 2 (rowsAV (isort ltV (l.map vrow)))
        rw [e9]
        refine ⟨?_, ?_, hvec.nil, fun h => by omega, fun q hq => ?_⟩
        · intro y hy
          simp only [rowsAV, List.map_map, List.mem_map] at hy
          obtain ⟨v, _, rfl⟩ := hy
          rfl
        · simp only [rowsAV, List.length_map, hil, hnl]; exact hcap
        · rw [hr, Option.some.injEq] at hq
          subst hq
          have hhh : w.heap[r]? = some (.cells cc ct (0, 0)) := hh
          refine ⟨putCells id 0 (flatK encV 2 (isort ltN l).toArray) cc, ct, ?_, ?_, fun k a ha => ?_⟩
          · rw [hpk, if_pos hrl, Array.getElem?_modify, if_pos rfl, hhh]
            rfl
          · simpa [putCells] using hs
          · obtain ⟨hk, rfl⟩ := rows_flat ha
            have hkc : k < cc.size := by
              have : n * 2 ≤ lc.cap * 2 := Nat.mul_le_mul_right _ hcap
              rw [hil, hnl] at hk
              omega
            refine ⟨(flatK encV 2 (isort ltN l).toArray)[k]!, ?_, ?_, ?_⟩
            · simp only [putCells, Array.getElem?_mapIdx, Array.getElem?_eq_getElem hkc, Option.map_some, Nat.zero_le, true_and, Nat.zero_add, size_flatK, Nat.sub_zero, id]
              rw [if_pos (by simpa using hk)]
            · rw [flat_encV _ _ (by simpa using hk)]
              split <;> rfl
            · rw [flat_encV _ _ (by simpa using hk)]
              split
              · exact .p (.str _)
              · exact .p (.int _ _))
    exact ⟨_, rfl, _, _, key.1, hunit _, key.2⟩
end Go.Proofs.Ythljaicehpdkbaa
