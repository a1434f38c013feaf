/- What the evaluator's store shows: not its frozen marks, nor what comes behind it. -/
import Derived.Test.YtncolifaemncbaaA3
namespace Go.AE

def unfrz : Obj → Obj
  | .pv es rows _ => .pv es rows false
  | .av es rows _ => .av es rows false
  | .map es _ => .map es false
  | o => o
def frz : Obj → Obj
  | .pv es rows _ => .pv es rows true
  | .av es rows _ => .av es rows true
  | .map es _ => .map es true
  | o => o
theorem unfrz_frz (o : Obj) : unfrz (frz o) = unfrz o := by cases o <;> rfl
theorem frz_frz (o : Obj) : frz (frz o) = frz o := by cases o <;> rfl
theorem freezeAt_getElem (σ : Store) (b i : Nat) : (freezeAt σ b)[i]? = (σ[i]?).map fun o => if i = b then frz o else o := by
  unfold freezeAt
  cases ho : σ[b]? with
  | none =>
    by_cases h : i = b
    · subst h; simp [ho]
    · simp [h]
  | some o =>
    have hlt := (List.getElem?_eq_some_iff.1 ho).1
    by_cases h : i = b
    · subst h
      cases o <;> simp only [frz, ho, Option.map_some, if_true] <;> first | exact List.getElem?_set_self hlt | exact ho
    · cases o <;> simp only [h, if_false, Option.map_id_fun', id] <;> first | exact List.getElem?_set_ne (fun hx => h hx.symm) | rfl
theorem freezeAll_getElem : ∀ (L : List Nat) (σ : Store) (i : Nat), (freezeAll σ L)[i]? = (σ[i]?).map fun o => if i ∈ L then frz o else o
  | [], σ, i => by simp [freezeAll]
  | b :: L, σ, i => by
    rw [freezeAll, freezeAll_getElem L, freezeAt_getElem]
    cases σ[i]? with
    | none => rfl
    | some o =>
      simp only [Option.map_some, List.mem_cons, Option.some.injEq]
      by_cases h : i = b
      · by_cases h' : i ∈ L
        · simp only [h, true_or, if_true]
          rw [← h, if_pos h', frz_frz]
        · simp only [h, true_or, if_true]
          rw [← h, if_neg h']
      · simp [h]
theorem freezeAll_comm (σ : Store) (A B : List Nat) : freezeAll (freezeAll σ A) B = freezeAll (freezeAll σ B) A := by
  apply List.ext_getElem?
  intro i
  rw [freezeAll_getElem, freezeAll_getElem, freezeAll_getElem, freezeAll_getElem]
  cases σ[i]? with
  | none => rfl
  | some o =>
    simp only [Option.map_some, Option.some.injEq]
    by_cases h : i ∈ A <;> by_cases h' : i ∈ B <;> simp [h, h']
/-- The same but for the frozen marks. -/
def Alike (σ σ' : Store) : Prop := ∀ i : Nat, (σ[i]?).map unfrz = (σ'[i]?).map unfrz
theorem Alike.symm {σ σ' : Store} (h : Alike σ σ') : Alike σ' σ := fun i => (h i).symm
theorem alike_freezeAll (σ : Store) (L : List Nat) : Alike σ (freezeAll σ L) := by
  intro i
  rw [freezeAll_getElem]
  cases σ[i]? with
  | none => rfl
  | some o =>
    simp only [Option.map_some, Option.some.injEq]
    split
    · rw [unfrz_frz]
    · rfl
theorem alike_freezeFor (σ : Store) (args : List AV) (r : PV) : Alike σ (freezeFor σ args r) := by
  unfold freezeFor
  split
  · intro i; rfl
  · exact alike_freezeAll σ _
/-- How alike stores are at one place. -/
theorem Alike.at {σ σ' : Store} (h : Alike σ σ') (b : Nat) : (σ[b]? = none ∧ σ'[b]? = none) ∨ (∃ es rows f f', σ[b]? = some (.pv es rows f) ∧ σ'[b]? = some (.pv es rows f')) ∨ (∃ es rows f f', σ[b]? = some (.av es rows f) ∧ σ'[b]? = some (.av es rows f')) ∨
    (∃ es f f', σ[b]? = some (.map es f) ∧ σ'[b]? = some (.map es f')) ∨ ∃ o, σ[b]? = some o ∧ σ'[b]? = some o := by
  have hb := h b
  cases h1 : σ[b]? with
  | none =>
    cases h2 : σ'[b]? with
    | none => exact .inl ⟨rfl, rfl⟩
    | some o' => rw [h1, h2] at hb; simp at hb
  | some o =>
    cases h2 : σ'[b]? with
    | none => rw [h1, h2] at hb; simp at hb
    | some o' =>
      rw [h1, h2] at hb
      simp only [Option.map_some, Option.some.injEq] at hb
      cases o <;> cases o' <;> simp only [unfrz, Obj.pv.injEq, Obj.av.injEq, Obj.map.injEq, Obj.loop.injEq, reduceCtorEq, and_true] at hb
      · obtain ⟨rfl, rfl⟩ := hb; exact .inr (.inl ⟨_, _, _, _, rfl, rfl⟩)
      · obtain ⟨rfl, rfl⟩ := hb; exact .inr (.inr (.inl ⟨_, _, _, _, rfl, rfl⟩))
      · subst hb; exact .inr (.inr (.inr (.inl ⟨_, _, _, rfl, rfl⟩)))
      · obtain ⟨rfl, rfl, rfl, rfl, rfl, rfl⟩ := hb; exact .inr (.inr (.inr (.inr ⟨_, rfl, rfl⟩)))
      · exact .inr (.inr (.inr (.inr ⟨_, rfl, rfl⟩)))
theorem omap_congr {α β : Type} {f g : α → Option β} {l : List α} (h : ∀ x ∈ l, f x = g x) : omap f l = omap g l := by
  induction l with
  | nil => rfl
  | cons a r ih => simp only [omap, h a (by simp), ih (fun x hx => h x (by simp [hx]))]
theorem purify_alike {σ σ' : Store} (h : Alike σ σ') : ∀ (k : Nat) (v : AV), purify σ k v = purify σ' k v := by
  intro k
  induction k with
  | zero => intro v; rfl
  | succ k ih =>
    intro v
    have e : purify σ k = purify σ' k := funext ih
    cases v with
    | sl b n => simp only [purify]; rcases h.at b with ⟨h1, h2⟩ | ⟨_, _, _, _, h1, h2⟩ | ⟨_, _, _, _, h1, h2⟩ | ⟨_, _, _, h1, h2⟩ | ⟨_, h1, h2⟩ <;> simp only [h1, h2, e]
    | ptr b n i o => simp only [purify]; rcases h.at b with ⟨h1, h2⟩ | ⟨_, _, _, _, h1, h2⟩ | ⟨_, _, _, _, h1, h2⟩ | ⟨_, _, _, h1, h2⟩ | ⟨_, h1, h2⟩ <;> simp only [h1, h2, e]
    | map b => simp only [purify]; rcases h.at b with ⟨h1, h2⟩ | ⟨_, _, _, _, h1, h2⟩ | ⟨_, _, _, _, h1, h2⟩ | ⟨_, _, _, h1, h2⟩ | ⟨_, h1, h2⟩ <;> simp only [h1, h2, e]
    | _ => simp only [purify, e]
theorem refs_alike {σ σ' : Store} (h : Alike σ σ') : ∀ (k : Nat) (v : AV), refs σ k v = refs σ' k v := by
  intro k
  induction k with
  | zero => intro v; rfl
  | succ k ih =>
    intro v
    have e : refs σ k = refs σ' k := funext ih
    cases v with
    | sl b n => simp only [refs]; rcases h.at b with ⟨h1, h2⟩ | ⟨_, _, _, _, h1, h2⟩ | ⟨_, _, _, _, h1, h2⟩ | ⟨_, _, _, h1, h2⟩ | ⟨_, h1, h2⟩ <;> simp only [h1, h2, e]
    | ptr b n i o => simp only [refs]; rcases h.at b with ⟨h1, h2⟩ | ⟨_, _, _, _, h1, h2⟩ | ⟨_, _, _, _, h1, h2⟩ | ⟨_, _, _, h1, h2⟩ | ⟨_, h1, h2⟩ <;> simp only [h1, h2, e]
    | map b => simp only [refs]; rcases h.at b with ⟨h1, h2⟩ | ⟨_, _, _, _, h1, h2⟩ | ⟨_, _, _, _, h1, h2⟩ | ⟨_, _, _, h1, h2⟩ | ⟨_, h1, h2⟩ <;> simp only [h1, h2, e]
    | _ => simp only [refs, e]
theorem loadV_alike {σ σ' : Store} (h : Alike σ σ') (s : Nat) (g : Bool) (a : AV) : loadV σ s g a = loadV σ' s g a := by
  cases a with
  | ptr b n i o => simp only [loadV]; rcases h.at b with ⟨h1, h2⟩ | ⟨_, _, _, _, h1, h2⟩ | ⟨_, _, _, _, h1, h2⟩ | ⟨_, _, _, h1, h2⟩ | ⟨_, h1, h2⟩ <;> simp only [h1, h2]
  | p v => cases v <;> rfl
  | _ => rfl
theorem svec_alike {σ σ' : Store} (h : Alike σ σ') (b : Nat) : svec σ b = svec σ' b := by
  unfold svec
  rcases h.at b with ⟨h1, h2⟩ | ⟨_, _, _, _, h1, h2⟩ | ⟨_, _, _, _, h1, h2⟩ | ⟨_, _, _, h1, h2⟩ | ⟨_, h1, h2⟩ <;> simp only [h1, h2] <;> rfl
theorem slen_alike {σ σ' : Store} (h : Alike σ σ') (b : Nat) : slen σ b = slen σ' b := by
  unfold slen
  rcases h.at b with ⟨h1, h2⟩ | ⟨_, _, _, _, h1, h2⟩ | ⟨_, _, _, _, h1, h2⟩ | ⟨_, _, _, h1, h2⟩ | ⟨_, h1, h2⟩ <;> simp only [h1, h2] <;> rfl
theorem lenS_alike {σ σ' : Store} (h : Alike σ σ') (a : AV) : lenS σ a = lenS σ' a := by
  cases a with
  | sl b n => simp only [lenS, slen_alike h]
  | p v => cases v <;> rfl
  | _ => rfl
theorem lenM_alike {σ σ' : Store} (h : Alike σ σ') (a : AV) : lenM σ a = lenM σ' a := by
  cases a with
  | map b => simp only [lenM]; rcases h.at b with ⟨h1, h2⟩ | ⟨_, _, _, _, h1, h2⟩ | ⟨_, _, _, _, h1, h2⟩ | ⟨_, _, _, h1, h2⟩ | ⟨_, h1, h2⟩ <;> simp only [h1, h2]
  | p v => cases v <;> rfl
  | _ => rfl
end Go.AE
/- Operations that do not touch each other: in either order. -/
namespace Go.AE

section
variable (p : Program) (cq : FuncId → Bool)
/-- 'OpFact' by the temporaries and the store alone. -/
def OpF (τ : Tm) (σ : Store) (op : XOp) (v : AV) (σ' : Store) : Prop := OpFact p cq ⟨τ, σ, 0, none⟩ op v σ'
end
variable {p : Program} {cq : FuncId → Bool}
theorem opF_of {st : St} {op : XOp} {v : AV} {σ' : Store} : OpFact p cq st op v σ' ↔ OpF p cq st.τ st.σ op v σ' := Iff.rfl

theorem rowsP_alike {σ σ' : Store} (h : Alike σ σ') (a : AV) : rowsP σ a = rowsP σ' a := by
  cases a with
  | sl b n => simp only [rowsP]; rcases h.at b with ⟨h1, h2⟩ | ⟨_, _, _, _, h1, h2⟩ | ⟨_, _, _, _, h1, h2⟩ | ⟨_, _, _, h1, h2⟩ | ⟨_, h1, h2⟩ <;> simp only [h1, h2]
  | p v => cases v <;> rfl
  | _ => rfl
/-- What computes only. -/
theorem plain_q0 {op : XOp} (hk : op.kind cq = .q0) {σ σ' : Store} {τ : Tm} {v : AV} (h : plain σ τ op = some (v, σ')) : σ' = σ ∧ ∀ σ2, plain σ2 τ op = some (v, σ2) := by
  have quietly : plain σ τ op = (quiet σ τ op).map (fun v => (v, σ)) → (∀ σ2, plain σ2 τ op = (quiet σ τ op).map fun v => (v, σ2)) → σ' = σ ∧ ∀ σ2, plain σ2 τ op = some (v, σ2) := by
    intro h1 h2
    rw [h1] at h
    simp only [Option.map_eq_some_iff, Prod.mk.injEq] at h
    obtain ⟨u, hu, rfl, rfl⟩ := h
    exact ⟨rfl, fun σ2 => by rw [h2, hu]; rfl⟩
  cases op <;> simp only [XOp.kind, reduceCtorEq] at hk
  case mv x eg =>
    cases eg with
    | true => simp at hk
    | false =>
      simp only [plain] at h ⊢
      split at h
      · rename_i he
        simp only [Bool.false_eq_true, if_false, Option.some.injEq, Prod.mk.injEq] at h
        obtain ⟨rfl, rfl⟩ := h
        exact ⟨rfl, fun σ2 => by simp⟩
      · rename_i u hne
        simp only [Option.some.injEq, Prod.mk.injEq] at h
        obtain ⟨rfl, rfl⟩ := h
        exact ⟨rfl, fun σ2 => rfl⟩
  case callf f as => split at hk <;> cases hk
  all_goals exact quietly rfl (fun _ => rfl)
/-- What reads the store. -/
theorem plain_q {op : XOp} (hk : op.kind cq = .q) {σ σ' : Store} {τ : Tm} {v : AV} (h : plain σ τ op = some (v, σ')) : σ' = σ ∧ (∀ σ2, Alike σ σ2 → plain σ2 τ op = some (v, σ2)) ∧ ∀ ext, plain (σ ++ ext) τ op = some (v, σ ++ ext) := by
  have quietly : plain σ τ op = (quiet σ τ op).map (fun v => (v, σ)) → (∀ σ2, plain σ2 τ op = (quiet σ2 τ op).map fun v => (v, σ2)) → (∀ σ2, Alike σ σ2 → quiet σ τ op = quiet σ2 τ op) → (∀ ext u, quiet σ τ op = some u → quiet (σ ++ ext) τ op = some u) →
      σ' = σ ∧ (∀ σ2, Alike σ σ2 → plain σ2 τ op = some (v, σ2)) ∧ ∀ ext, plain (σ ++ ext) τ op = some (v, σ ++ ext) := by
    intro h1 h2 h3 h4
    rw [h1] at h
    simp only [Option.map_eq_some_iff, Prod.mk.injEq] at h
    obtain ⟨u, hu, rfl, rfl⟩ := h
    exact ⟨rfl, fun σ2 ha => by rw [h2, ← h3 σ2 ha, hu]; rfl, fun ext => by rw [h2, h4 ext u hu]; rfl⟩
  have app : ∀ (ext : Store) (b : Nat) (o : Obj), σ[b]? = some o → (σ ++ ext)[b]? = some o := fun ext b o ho => by rw [List.getElem?_append_left (List.getElem?_eq_some_iff.1 ho).1]; exact ho
  cases op <;> simp only [XOp.kind, reduceCtorEq] at hk
  case mv x eg => cases eg <;> simp at hk
  case callf f as => split at hk <;> cases hk
  case load s g x =>
    refine quietly rfl (fun _ => rfl) (fun σ2 ha => loadV_alike ha s g _) (fun ext u hu => ?_)
    simp only [quiet] at hu ⊢
    generalize x.val τ = xv at hu
    cases xv with
    | ptr b n i o =>
      simp only [loadV] at hu ⊢
      cases hb : σ[b]? with
      | none => rw [hb] at hu; cases hu
      | some ob =>
        have e : (σ ++ ext)[b]? = σ[b]? := by { rw [hb]; exact app ext b ob hb }
        simp only [e]
        exact hu
    | p q => cases q <;> exact hu
    | _ => exact hu
  case iadrS es x i =>
    refine quietly rfl (fun _ => rfl) (fun σ2 ha => ?_) (fun ext u hu => ?_)
    · simp only [quiet, svec_alike ha]
    · simp only [quiet] at hu ⊢
      cases hn : natOf (i.val τ) with
      | none => rw [hn] at hu; cases hu
      | some n =>
        rw [hn] at hu
        simp only [Option.bind_some] at hu ⊢
        generalize x.val τ = xv at hu
        cases xv with
        | sl b m =>
          simp only [svec] at hu ⊢
          cases hb : σ[b]? with
          | none => simp only [hb, Option.bind_none] at hu; simp at hu
          | some ob => have e : (σ ++ ext)[b]? = σ[b]? := by { rw [hb]; exact app ext b ob hb }
                       simp only [e]; exact hu
        | p q => cases q <;> exact hu
        | _ => exact hu
  case slcS es x lo hi mx => exact quietly rfl (fun _ => rfl) (fun _ _ => rfl) (fun _ _ hu => hu)
  case lookup kl z x k ok =>
    refine quietly rfl (fun _ => rfl) (fun σ2 ha => ?_) (fun ext u hu => ?_)
    · simp only [quiet]
      generalize x.val τ = xv
      cases xv with
      | map b => rcases ha.at b with ⟨h1, h2⟩ | ⟨_, _, _, _, h1, h2⟩ | ⟨_, _, _, _, h1, h2⟩ | ⟨_, _, _, h1, h2⟩ | ⟨_, h1, h2⟩ <;> simp only [h1, h2]
      | p q => cases q <;> rfl
      | _ => rfl
    · simp only [quiet] at hu ⊢
      generalize x.val τ = xv at hu
      cases xv with
      | map b =>
        cases hb : σ[b]? with
        | none =>
          simp only [hb] at hu
          split at hu
          · split at hu
            · cases hu
            · cases hu
          · cases hu
        | some ob =>
        have e : (σ ++ ext)[b]? = σ[b]? := by { rw [hb]; exact app ext b ob hb }
        simp only [e]
        exact hu
      | p q => cases q <;> exact hu
      | _ => exact hu
  case lenS x =>
    refine quietly rfl (fun _ => rfl) (fun σ2 ha => by simp only [quiet, lenS_alike ha]) (fun ext u hu => ?_)
    simp only [quiet] at hu ⊢
    generalize x.val τ = xv at hu
    cases xv with
    | sl b n =>
      simp only [lenS, slen] at hu ⊢
      cases hb : σ[b]? with
      | none => simp [hb] at hu
      | some ob =>
        have e : (σ ++ ext)[b]? = σ[b]? := by { rw [hb]; exact app ext b ob hb }
        simp only [e]
        exact hu
    | p q => cases q <;> exact hu
    | _ => exact hu
  case lenM x =>
    refine quietly rfl (fun _ => rfl) (fun σ2 ha => by simp only [quiet, lenM_alike ha]) (fun ext u hu => ?_)
    simp only [quiet] at hu ⊢
    generalize x.val τ = xv at hu
    cases xv with
    | map b =>
      simp only [lenM] at hu ⊢
      cases hb : σ[b]? with
      | none => rw [hb] at hu; cases hu
      | some ob =>
        have e : (σ ++ ext)[b]? = σ[b]? := by { rw [hb]; exact app ext b ob hb }
        simp only [e]
        exact hu
    | p q => cases q <;> exact hu
    | _ => exact hu
  case b2s x =>
    refine quietly rfl (fun _ => rfl) (fun σ2 ha => by simp only [quiet, rowsP_alike ha]) (fun ext u hu => ?_)
    simp only [quiet] at hu ⊢
    generalize x.val τ = xv at hu
    cases xv with
    | sl b n =>
      simp only [rowsP] at hu ⊢
      cases hb : σ[b]? with
      | none => rw [hb] at hu; cases hu
      | some ob =>
        have e : (σ ++ ext)[b]? = σ[b]? := by { rw [hb]; exact app ext b ob hb }
        simp only [e]
        exact hu
    | p q => cases q <;> exact hu
    | _ => exact hu
end Go.AE
/- Two operations that do not touch each other, swapped. -/
namespace Go.AE
variable {p : Program} {cq : FuncId → Bool}

theorem plain_a {op : XOp} (hk : op.kind cq = .a) {σ σ' : Store} {τ : Tm} {v : AV} (h : plain σ τ op = some (v, σ')) : ∃ ext, σ' = σ ++ ext := by
  have eag : ∀ (cs : List AV) (σ : Store), ∃ ext, (eagers cs σ).2 = σ ++ ext := by
    intro cs
    induction cs with
    | nil => intro σ; exact ⟨[], by simp [eagers]⟩
    | cons c cs ih =>
      intro σ
      cases c <;> first
        | (obtain ⟨ext, he⟩ := ih σ
           exact ⟨ext, by simpa [eagers] using he⟩)
        | (obtain ⟨ext, he⟩ := ih (σ ++ [.pv 0 [] false])
           exact ⟨.pv 0 [] false :: ext, by simp [eagers, he]⟩)
  cases op <;> simp only [XOp.kind, reduceCtorEq] at hk
  case mv x eg =>
    cases eg with
    | false => simp at hk
    | true =>
      simp only [plain] at h
      split at h
      · simp only [if_true, Option.some.injEq, Prod.mk.injEq] at h; exact ⟨_, h.2.symm⟩
      · simp only [Option.some.injEq, Prod.mk.injEq] at h; exact ⟨[], by simp [h.2]⟩
  case callf f as => split at hk <;> cases hk
  case alloc z s =>
    simp only [plain, Option.some.injEq, Prod.mk.injEq] at h
    obtain ⟨ext, he⟩ := eag z σ
    exact ⟨ext ++ [mkObj s (eagers z σ).1], by rw [← h.2, he, List.append_assoc]⟩
  case init s g x ro =>
    simp only [plain, Option.bind_eq_some_iff] at h
    obtain ⟨cs, _, h⟩ := h
    split at h
    · split at h
      · simp only [Option.some.injEq, Prod.mk.injEq] at h; exact ⟨[], by simp [h.2]⟩
      · simp only [Option.some.injEq, Prod.mk.injEq] at h; exact ⟨_, h.2.symm⟩
    · simp only [Option.some.injEq, Prod.mk.injEq] at h
      obtain ⟨ext, he⟩ := eag cs σ
      exact ⟨ext ++ [mkObj s (eagers cs σ).1], by rw [← h.2, he, List.append_assoc]⟩
  case box s g x ro =>
    simp only [plain, Option.bind_eq_some_iff] at h
    obtain ⟨cs, _, h⟩ := h
    split at h
    · split at h
      · simp only [Option.some.injEq, Prod.mk.injEq] at h; exact ⟨[], by simp [h.2]⟩
      · simp only [Option.some.injEq, Prod.mk.injEq] at h; exact ⟨_, h.2.symm⟩
    · simp only [Option.some.injEq, Prod.mk.injEq] at h
      obtain ⟨ext, he⟩ := eag cs σ
      exact ⟨ext ++ [mkObj s (eagers cs σ).1], by rw [← h.2, he, List.append_assoc]⟩
  case bslice es z n ps =>
    simp only [plain, Option.map_eq_some_iff, Prod.mk.injEq] at h
    obtain ⟨cs, _, _, h⟩ := h
    exact ⟨_, h.symm⟩
  case mkmap =>
    simp only [plain, Option.some.injEq, Prod.mk.injEq] at h
    exact ⟨_, h.2.symm⟩
  case mkslice es b z l c =>
    simp only [plain, Option.bind_eq_some_iff] at h
    obtain ⟨l', _, c', _, h⟩ := h
    split at h
    · split at h
      · simp only [Option.some.injEq, Prod.mk.injEq] at h; exact ⟨_, h.2.symm⟩
      · split at h
        · simp only [Option.some.injEq, Prod.mk.injEq] at h; exact ⟨_, h.2.symm⟩
        · cases h
    · cases h

theorem opF_plain {τ : Tm} {σ σ' : Store} {op : XOp} {v : AV} (hc : op.call? = false) : OpF p cq τ σ op v σ' ↔ plain σ τ op = some (v, σ') := by
  unfold OpF OpFact
  split
  · simp [XOp.call?] at hc
  · simp [XOp.call?] at hc
  · rfl
theorem kind_call {op : XOp} (h : op.kind cq = .q0 ∨ op.kind cq = .q ∨ op.kind cq = .a) : op.call? = false := by
  cases op <;> first | rfl | skip
  · simp only [XOp.kind] at h
    split at h <;> simp at h
  · simp [XOp.kind] at h
theorem opF_c {op : XOp} (hk : op.kind cq = .c) {τ : Tm} {σ σ' : Store} {v : AV} (h : OpF p cq τ σ op v σ') : ∃ L : List Nat, σ' = freezeAll σ L ∧ ∀ σ2, Alike σ σ2 → OpF p cq τ σ2 op v (freezeAll σ2 L) := by
  cases op <;> simp only [XOp.kind, reduceCtorEq] at hk
  case mv x eg => cases eg <;> simp at hk
  case callf f as =>
    split at hk
    · rename_i hcq
      have h' : CallFact p cq f (as.map (·.val τ)) σ v σ' := h
      rcases h' with ⟨ps, r, h1, h2, h3, h4⟩ | ⟨h1, _⟩
      · have hp : ∀ σ2, Alike σ σ2 → omap (purify σ2 depth) (as.map (·.val τ)) = some ps := fun σ2 ha => by
          rw [← h1]
          exact (omap_congr (fun x _ => purify_alike ha depth x)).symm
        have hr : ∀ σ2, Alike σ σ2 → (as.map (·.val τ)).flatMap (refs σ2 depth) = (as.map (·.val τ)).flatMap (refs σ depth) := fun σ2 ha => by
          have : refs σ2 depth = refs σ depth := funext fun x => (refs_alike ha depth x).symm
          rw [this]
        by_cases hf : r.flat = true
        · refine ⟨[], by rw [h4]; simp [freezeFor, hf, freezeAll], fun σ2 ha => ?_⟩
          exact .inl ⟨ps, r, hp σ2 ha, h2, h3, by simp [freezeFor, hf, freezeAll]⟩
        · refine ⟨(as.map (·.val τ)).flatMap (refs σ depth), by rw [h4]; simp [freezeFor, hf], fun σ2 ha => ?_⟩
          refine .inl ⟨ps, r, hp σ2 ha, h2, h3, ?_⟩
          have : freezeFor σ2 (as.map (·.val τ)) r = freezeAll σ2 ((as.map (·.val τ)).flatMap (refs σ2 depth)) := by simp [freezeFor, hf]
          rw [show (({ τ := τ, σ := σ2, nt := 0, rd := none } : St).σ) = σ2 from rfl, this, hr σ2 ha]
      · rw [hcq] at h1; cases h1
    · cases hk

/-- What either order comes to: the same. -/
theorem commute {x y : XOp} {τ : Tm} {σ σ1 σ2 : Store} {vx vy : AV} (hx : OpF p cq τ σ x vx σ1) (hy : OpF p cq τ σ1 y vy σ2) (hk : kindsOk (x.kind cq) (y.kind cq) = true) : ∃ σ1', OpF p cq τ σ y vy σ1' ∧ OpF p cq τ σ1' x vx σ2 := by
  by_cases hx0 : x.kind cq = .q0
  · have hc := kind_call (.inl hx0)
    obtain ⟨rfl, h⟩ := plain_q0 hx0 ((opF_plain hc).1 hx)
    exact ⟨σ2, hy, (opF_plain hc).2 (h σ2)⟩
  by_cases hy0 : y.kind cq = .q0
  · have hc := kind_call (.inl hy0)
    obtain ⟨rfl, h⟩ := plain_q0 hy0 ((opF_plain hc).1 hy)
    exact ⟨σ, (opF_plain hc).2 (h σ), hx⟩
  cases hkx : x.kind cq with
  | q0 => exact absurd hkx hx0
  | q =>
    have hc := kind_call (.inr (.inl hkx))
    obtain ⟨rfl, h1, h2⟩ := plain_q hkx ((opF_plain hc).1 hx)
    cases hky : y.kind cq with
    | q0 => exact absurd hky hy0
    | q =>
      obtain ⟨rfl, _, _⟩ := plain_q hky ((opF_plain (kind_call (.inr (.inl hky)))).1 hy)
      exact ⟨_, hy, hx⟩
    | c =>
      obtain ⟨L, rfl, _⟩ := opF_c hky hy
      exact ⟨_, hy, (opF_plain hc).2 (h1 _ (alike_freezeAll _ L))⟩
    | a =>
      obtain ⟨ext, rfl⟩ := plain_a hky ((opF_plain (kind_call (.inr (.inr hky)))).1 hy)
      exact ⟨_, hy, (opF_plain hc).2 (h2 ext)⟩
    | w => rw [hkx, hky] at hk; cases hk
  | c =>
    obtain ⟨L, rfl, h1⟩ := opF_c hkx hx
    cases hky : y.kind cq with
    | q0 => exact absurd hky hy0
    | q =>
      have hc := kind_call (.inr (.inl hky))
      obtain ⟨rfl, h2, _⟩ := plain_q hky ((opF_plain hc).1 hy)
      exact ⟨σ, (opF_plain hc).2 (h2 _ (alike_freezeAll σ L).symm), hx⟩
    | c =>
      obtain ⟨L', rfl, h2⟩ := opF_c hky hy
      refine ⟨freezeAll σ L', h2 σ (alike_freezeAll σ L).symm, ?_⟩
      have := h1 (freezeAll σ L') (alike_freezeAll σ L')
      rw [freezeAll_comm] at this
      exact this
    | a => rw [hkx, hky] at hk; cases hk
    | w => rw [hkx, hky] at hk; cases hk
  | a =>
    cases hky : y.kind cq with
    | q0 => exact absurd hky hy0
    | _ => rw [hkx, hky] at hk; cases hk
  | w =>
    cases hky : y.kind cq with
    | q0 => exact absurd hky hy0
    | _ => rw [hkx, hky] at hk; cases hk
end Go.AE
/- What an operation looks at; operations moved to the front. -/
namespace Go.AE
variable {p : Program} {cq : FuncId → Bool}

section
variable {τ τ' : Tm}
theorem val_congr {x : O} (h : ∀ t ∈ x.reads, τ.get t = τ'.get t) : x.val τ = x.val τ' := by
  cases x with
  | t n => exact h n (by simp [O.reads])
  | c v => rfl
theorem vals_congr {xs : List O} (h : ∀ t ∈ xs.flatMap O.reads, τ.get t = τ'.get t) : xs.map (·.val τ) = xs.map (·.val τ') :=
  List.map_congr_left fun x hx => val_congr fun t ht => h t (List.mem_flatMap.2 ⟨x, hx, ht⟩)
theorem opt_congr {x : Option O} (h : ∀ t ∈ optReads x, τ.get t = τ'.get t) : x.map (O.val τ) = x.map (O.val τ') := by
  cases x with
  | none => rfl
  | some x => simp only [Option.map_some, val_congr (x := x) h]
theorem parts_congr {β : Type} {ps : List (Nat × Nat × O)} (h : ∀ t ∈ ps.flatMap fun x => x.2.2.reads, τ.get t = τ'.get t) (f : Nat × Nat × O → AV → β) : ps.map (fun x => f x (x.2.2.val τ)) = ps.map (fun x => f x (x.2.2.val τ')) :=
  List.map_congr_left fun x hx => by rw [val_congr fun t ht => h t (List.mem_flatMap.2 ⟨x, hx, ht⟩)]
theorem opF_congr {σ σ' : Store} {op : XOp} {v : AV} (h : ∀ t ∈ op.reads, τ.get t = τ'.get t) (hf : OpF p cq τ σ op v σ') : OpF p cq τ' σ op v σ' := by
  cases op
  case callf f as =>
    have e := vals_congr (xs := as) h
    have hf' : CallFact p cq f (as.map (·.val τ)) σ v σ' := hf
    rw [e] at hf'
    exact hf'
  case callv x as =>
    have e1 := val_congr (x := x) fun t ht => h t (List.mem_append_left _ ht)
    have e2 := vals_congr (xs := as) fun t ht => h t (List.mem_append_right _ ht)
    have hf' : CallVOk p cq (x.val τ) (as.map (·.val τ)) σ v σ' := hf
    rw [e1, e2] at hf'
    exact hf'
  all_goals
    rw [opF_plain rfl] at hf ⊢
    rw [← hf]
    first
      | rfl
      | (rename_i x; simp only [plain, quiet, val_congr (x := x) h]; done)
      | (rename_i x _; simp only [plain, quiet, val_congr (x := x) h]; done)
      | (rename_i x _ _; simp only [plain, quiet, val_congr (x := x) h]; done)
      | (rename_i x y; simp only [plain, quiet, val_congr (x := x) (fun t ht => h t (List.mem_append_left _ ht)), val_congr (x := y) (fun t ht => h t (List.mem_append_right _ ht))]; done)
      | (rename_i x y _; simp only [plain, quiet, val_congr (x := x) (fun t ht => h t (List.mem_append_left _ ht)), val_congr (x := y) (fun t ht => h t (List.mem_append_right _ ht))]; done)
      | (rename_i x y z; simp only [plain, quiet, val_congr (x := x) (fun t ht => h t (List.mem_append_left _ (List.mem_append_left _ ht))), val_congr (x := y) (fun t ht => h t (List.mem_append_left _ (List.mem_append_right _ ht))), val_congr (x := z) (fun t ht => h t (List.mem_append_right _ ht))]; done)
      | (rename_i x lo hi; simp only [plain, quiet, val_congr (x := x) (fun t ht => h t (List.mem_append_left _ (List.mem_append_left _ ht))), opt_congr (x := lo) (fun t ht => h t (List.mem_append_left _ (List.mem_append_right _ ht))), opt_congr (x := hi) (fun t ht => h t (List.mem_append_right _ ht))]; done)
      | (rename_i x lo hi mx; simp only [plain, quiet, val_congr (x := x) (fun t ht => h t (List.mem_append_left _ (List.mem_append_left _ (List.mem_append_left _ ht)))), opt_congr (x := lo) (fun t ht => h t (List.mem_append_left _ (List.mem_append_left _ (List.mem_append_right _ ht)))), opt_congr (x := hi) (fun t ht => h t (List.mem_append_left _ (List.mem_append_right _ ht))), opt_congr (x := mx) (fun t ht => h t (List.mem_append_right _ ht))]; done)
      | (rename_i xs; simp only [plain, quiet]; rw [← vals_congr (xs := xs) h]; done)
      | (rename_i xs; simp only [plain, quiet]; rw [show xs.map (O.val τ') = xs.map (O.val τ) from (vals_congr (xs := xs) h).symm]; done)
      | (rename_i ps; simp only [plain, quiet]; rw [← parts_congr (ps := ps) h (fun x v => (x.1, x.2.1, v))]; done)
      | (rename_i es z n ps; simp only [plain]; rw [← parts_congr (ps := ps) h (fun x v => (x.1 * es, x.2.1, v))]; done)
end
end Go.AE
/- Operations swapped, moved to the front. -/
namespace Go.AE
variable {p : Program} {cq : FuncId → Bool}

def updO (τ : Tm) (d : Option Nat) (v : AV) : Tm :=
  match d with
  | none => τ
  | some d => upd τ d v
theorem put_iff {st st' : St} {d : Option Nat} {v : AV} : st.put d v = some st' ↔ (∀ k, d = some k → k < st.nt) ∧ st' = { st with τ := updO st.τ d v } := by
  cases d with
  | none =>
    simp only [St.put, updO, Option.some.injEq, reduceCtorEq, false_implies, implies_true, true_and]
    exact ⟨fun h => h.symm, fun h => h.symm⟩
  | some d =>
    simp only [St.put, updO, Option.some.injEq, forall_eq']
    split
    · rename_i h; simp [h, eq_comm]
    · rename_i h; simp [h]
theorem updO_comm {τ : Tm} {d d' : Option Nat} {v v' : AV} (h : ∀ k, d' = some k → d ≠ some k) : updO (updO τ d v) d' v' = updO (updO τ d' v') d v := by
  cases d with
  | none => rfl
  | some a =>
    cases d' with
    | none => rfl
    | some b =>
      have hne : a ≠ b := fun hx => h b rfl (by rw [hx])
      simp only [updO, upd]
      congr 1
      funext t
      by_cases h1 : a = t <;> by_cases h2 : b = t <;> simp [h1, h2]
      exact absurd (h1.trans h2.symm) hne
theorem updO_get {τ : Tm} {d : Option Nat} {v : AV} {t : Nat} (h : ∀ k, d = some k → k ≠ t) : (updO τ d v).get t = τ.get t := by
  cases d with
  | none => rfl
  | some d => simp [updO, upd, h d rfl]
theorem wanted_congr {τ τ' : Tm} {g : Option (Nat × Bool)} (h : ∀ t w, g = some (t, w) → τ.get t = τ'.get t) : wantedOp τ g = wantedOp τ' g := by
  cases g with
  | none => rfl
  | some tw => simp only [wantedOp, h tw.1 tw.2 rfl]
/-- What an operation does, by temporaries and store. -/
def Does (p : Program) (cq : FuncId → Bool) (τ : Tm) (σ : Store) (i : IOp) (v : AV) (σ' : Store) : Prop :=
  (wantedOp τ i.guard = some true ∧ OpF p cq τ σ i.op v σ') ∨ (wantedOp τ i.guard = some false ∧ v = .p (.tup []) ∧ σ' = σ)
theorem stepFact_iff {i : IOp} {st st' : St} : StepFact p cq i st st' ↔ ∃ v σ', Does p cq st.τ st.σ i v σ' ∧ (∀ k, i.dst = some k → k < st.nt) ∧ st' = { st with τ := updO st.τ i.dst v, σ := σ' } := by
  constructor
  · rintro ⟨w, hw, ⟨rfl, v, σ', hf, hp⟩ | ⟨rfl, hp⟩⟩
    · obtain ⟨h1, h2⟩ := put_iff.1 hp
      exact ⟨v, σ', .inl ⟨hw, hf⟩, h1, h2⟩
    · obtain ⟨h1, h2⟩ := put_iff.1 hp
      exact ⟨_, st.σ, .inr ⟨hw, rfl, rfl⟩, h1, h2⟩
  · rintro ⟨v, σ', ⟨hw, hf⟩ | ⟨hw, rfl, rfl⟩, h1, h2⟩
    · exact ⟨true, hw, .inl ⟨rfl, v, σ', hf, put_iff.2 ⟨h1, h2⟩⟩⟩
    · exact ⟨false, hw, .inr ⟨rfl, put_iff.2 ⟨h1, h2⟩⟩⟩
theorem does_congr {τ τ' : Tm} {σ σ' : Store} {i : IOp} {v : AV} (h : ∀ t ∈ i.looks, τ.get t = τ'.get t) (hd : Does p cq τ σ i v σ') : Does p cq τ' σ i v σ' := by
  have hg : wantedOp τ i.guard = wantedOp τ' i.guard := wanted_congr fun t w hgw => h t (by simp [IOp.looks, hgw])
  rcases hd with ⟨hw, hf⟩ | ⟨hw, h1, h2⟩
  · exact .inl ⟨by rw [← hg]; exact hw, opF_congr (fun t ht => h t (by simp [IOp.looks, ht])) hf⟩
  · exact .inr ⟨by rw [← hg]; exact hw, h1, h2⟩
theorem does_commute {x y : IOp} {τ : Tm} {σ σ1 σ2 : Store} {vx vy : AV} (hx : Does p cq τ σ x vx σ1) (hy : Does p cq τ σ1 y vy σ2) (hk : kindsOk (x.op.kind cq) (y.op.kind cq) = true) : ∃ σ1', Does p cq τ σ y vy σ1' ∧ Does p cq τ σ1' x vx σ2 := by
  rcases hx with ⟨wx, fx⟩ | ⟨wx, rfl, rfl⟩
  · rcases hy with ⟨wy, fy⟩ | ⟨wy, rfl, rfl⟩
    · obtain ⟨σ1', h1, h2⟩ := commute fx fy hk
      exact ⟨σ1', .inl ⟨wy, h1⟩, .inl ⟨wx, h2⟩⟩
    · exact ⟨σ, .inr ⟨wy, rfl, rfl⟩, .inl ⟨wx, fx⟩⟩
  · exact ⟨σ2, hy, .inr ⟨wx, rfl, rfl⟩⟩
theorem swap {x y : IOp} {st s1 s2 : St} (hx : StepFact p cq x st s1) (hy : StepFact p cq y s1 s2) (hi : indep cq x y = true) : ∃ s1', StepFact p cq y st s1' ∧ StepFact p cq x s1' s2 := by
  simp only [indep, Bool.and_eq_true] at hi
  obtain ⟨⟨i1, i2⟩, i3⟩ := hi
  have d1 : ∀ k, x.dst = some k → k ∉ y.looks := fun k hk => by rw [hk] at i1; simpa using i1
  have d2 : ∀ k, y.dst = some k → k ∉ x.looks ∧ x.dst ≠ some k := fun k hk => by rw [hk] at i2; simpa using i2
  obtain ⟨vx, σ1, gx, bx, rfl⟩ := stepFact_iff.1 hx
  obtain ⟨vy, σ2, gy, by', rfl⟩ := stepFact_iff.1 hy
  have hy' : Does p cq st.τ σ1 y vy σ2 := does_congr (fun t ht => updO_get fun k hk hx => d1 k hk (hx ▸ ht)) gy
  obtain ⟨σ1', h1, h2⟩ := does_commute gx hy' i3
  refine ⟨_, stepFact_iff.2 ⟨vy, σ1', h1, by', rfl⟩, stepFact_iff.2 ⟨vx, σ2, ?_, bx, ?_⟩⟩
  · exact does_congr (fun t ht => (updO_get fun k hk hx => (d2 k hk).1 (hx ▸ ht)).symm) h2
  · simp only [updO_comm (fun k hk => (d2 k hk).2)]
theorem front {y : IOp} : ∀ {pre post : List IOp} {st st' : St}, Runs p cq (pre ++ y :: post) st st' → (∀ x ∈ pre, indep cq x y = true) → ∃ s1, StepFact p cq y st s1 ∧ Runs p cq (pre ++ post) s1 st'
  | [], post, st, st', h, _ => by
    cases h with
    | cons _ _ _ s1 _ hf hr => exact ⟨s1, hf, hr⟩
  | x :: pre, post, st, st', h, hi => by
    cases h with
    | cons _ _ _ s1 _ hf hr =>
      obtain ⟨s2, h1, h2⟩ := front hr (fun z hz => hi z (by simp [hz]))
      obtain ⟨s1', h3, h4⟩ := swap hf h1 (hi x (by simp))
      exact ⟨s1', h3, .cons _ _ _ s2 _ h4 h2⟩
end Go.AE
/- Regions that draw their order. -/
namespace Go.AE
variable {p : Program} {cq : FuncId → Bool}

theorem befores_length : ∀ (ops : List Oper) (acc : List (List Nat)), (befores ops acc).length = acc.length + ops.length
  | [], acc => by simp [befores]
  | o :: r, acc => by
    rw [befores, befores_length r]
    simp
    omega
theorem befores_prefix : ∀ (ops : List Oper) (acc : List (List Nat)) (i : Nat), i < acc.length → (befores ops acc)[i]? = acc[i]?
  | [], acc, i, _ => rfl
  | o :: r, acc, i, h => by
    rw [befores, befores_prefix r _ i (by simp; omega), List.getElem?_append_left h]
/-- What comes before the j-th: its edges, and what comes before those. -/
theorem befores_at : ∀ (ops : List Oper) (acc : List (List Nat)) (j : Nat) (o : Oper), ops[j]? = some o → (∀ e ∈ o.after, Region.binds .any e = true → e.on < acc.length + j) →
    ∀ x ∈ (befores ops acc).getD (acc.length + j) [], (∃ e ∈ o.after, Region.binds .any e = true ∧ e.on = x) ∨ ∃ e ∈ o.after, Region.binds .any e = true ∧ x ∈ (befores ops acc).getD e.on []
  | [], acc, j, o, h, _ => by simp at h
  | o0 :: r, acc, 0, o, h, hlt => by
    intro x hx
    simp only [List.getElem?_cons_zero, Option.some.injEq] at h
    subst h
    have hb : ∀ i, i < acc.length → (befores (o0 :: r) acc).getD i [] = acc.getD i [] := fun i hi => by
      simp only [List.getD_eq_getElem?_getD, befores_prefix (o0 :: r) acc i hi]
    have h0 : (befores (o0 :: r) acc)[acc.length]? = some ((o0.after.toList.filterMap fun e => if Region.binds .any e then some e.on else none) ++ (o0.after.toList.filterMap fun e => if Region.binds .any e then some e.on else none).flatMap fun j => acc.getD j []).eraseDups := by
      rw [befores, befores_prefix r _ acc.length (by simp)]
      simp
    simp only [Nat.add_zero, List.getD_eq_getElem?_getD, h0, Option.getD_some] at hx
    rw [List.mem_eraseDups, List.mem_append] at hx
    have dm : ∀ y, y ∈ (o0.after.toList.filterMap fun e => if Region.binds .any e then some e.on else none) → ∃ e ∈ o0.after, Region.binds .any e = true ∧ e.on = y := by
      intro y hy
      rw [List.mem_filterMap] at hy
      obtain ⟨e, he, hy⟩ := hy
      split at hy
      · rename_i hbd
        simp only [Option.some.injEq] at hy
        exact ⟨e, by simpa using he, hbd, hy⟩
      · cases hy
    rcases hx with hx | hx
    · exact .inl (dm x hx)
    · rw [List.mem_flatMap] at hx
      obtain ⟨j, hj, hx⟩ := hx
      obtain ⟨e, he, hbd, rfl⟩ := dm j hj
      refine .inr ⟨e, he, hbd, ?_⟩
      rw [hb _ (by simpa using hlt e he hbd)]
      simpa [List.getD_eq_getElem?_getD] using hx
  | o0 :: r, acc, j + 1, o, h, hlt => by
    intro x hx
    rw [befores] at hx ⊢
    refine befores_at r _ j o (by simpa using h) (fun e he hb => ?_) x ?_
    · have := hlt e he hb
      simp
      omega
    · rw [List.length_append, List.length_singleton, show acc.length + 1 + j = acc.length + (j + 1) by omega]
      exact hx
end Go.AE
/- Regions that draw their order: every order does the same. -/
namespace Go.AE
variable {p : Program} {cq : FuncId → Bool}

def rem (n : Nat) (listed : Array Bool) : List Nat := (List.range n).filter fun i => !listed.getD i true
theorem mem_rem {n i : Nat} {listed : Array Bool} : i ∈ rem n listed ↔ i < n ∧ listed.getD i true = false := by
  simp [rem, List.mem_filter, List.mem_range]
theorem rem_split {n i : Nat} {listed : Array Bool} (hsz : listed.size = n) (hi : i ∈ rem n listed) : ∃ pre post, rem n listed = pre ++ i :: post ∧ rem n (listed.setIfInBounds i true) = pre ++ post ∧ ∀ x ∈ pre, x < i := by
  obtain ⟨h1, h2⟩ := mem_rem.1 hi
  have hr : List.range n = List.range i ++ i :: List.range' (i + 1) (n - i - 1) := by
    obtain ⟨m, rfl⟩ : ∃ m, n = i + (m + 1) := ⟨n - i - 1, by omega⟩
    rw [List.range_eq_range', List.range_eq_range', ← List.range'_append_1, Nat.zero_add, List.range'_succ, show i + (m + 1) - i - 1 = m by omega]
  have other : ∀ x, x ≠ i → (listed.setIfInBounds i true).getD x true = listed.getD x true := fun x hx => getD_set_ne true (fun h => hx h.symm)
  refine ⟨(List.range i).filter fun x => !listed.getD x true, (List.range' (i + 1) (n - i - 1)).filter fun x => !listed.getD x true, ?_, ?_, ?_⟩
  · unfold rem
    rw [hr, List.filter_append, List.filter_cons, h2]
    simp
  · unfold rem
    rw [hr, List.filter_append, List.filter_cons]
    have hself : (listed.setIfInBounds i true).getD i true = true := by
      have : i < listed.size := by omega
      simp [Array.getD, this]
    rw [hself]
    simp only [Bool.not_true, Bool.false_eq_true, if_false]
    congr 1
    · exact List.filter_congr fun x hx => by rw [other x (by rw [List.mem_range] at hx; omega)]
    · exact List.filter_congr fun x hx => by rw [other x (by rw [List.mem_range'_1] at hx; omega)]
  · intro x hx
    rw [List.mem_filter, List.mem_range] at hx
    exact hx.1
end Go.AE
/- Regions that draw their order: proved. -/
namespace Go.AE
variable {p : Program} {cq : FuncId → Bool}

theorem drawn_all {ops : Array Oper} {is : List IOp} (hl : is.length = ops.size) (hi : ∀ (j : Nat) (o : Oper) (i : IOp), ops[j]? = some o → is[j]? = some i → IOk p ops o i)
    (H1 : ∀ (j : Nat) (o : Oper), ops[j]? = some o → ∀ e ∈ o.after, Region.binds .any e = true → e.on < j) (H2 : ∀ (i j : Nat) (x y : IOp), is[i]? = some x → is[j]? = some y → i < j → i ∈ (befores ops.toList []).getD j [] ∨ indep cq x y = true)
    {st' : St} {base : Nat} {F : Fence} {Q : Exit → Act → World → Prop} : ∀ (fuel : Nat) (listed : Array Bool) (st : St) (own : List Loc) (ok : Nat → Prop) (w : World) (a : Act), listed.size = ops.size → (∀ j, listed.getD j false = true → ∀ x ∈ (befores ops.toList []).getD j [], listed.getD x false = true) →
      (rem ops.size listed).length ≤ fuel → Runs p cq ((rem ops.size listed).filterMap (is[·]?)) st st' → Now p cq ⟨own, st.σ, ok, w⟩ st base F a →
      (∀ (own' : List Loc) (ok' : Nat → Prop) (w' : World) (a' : Act), Now p cq ⟨own', st'.σ, ok', w'⟩ st' base F a' → Step ⟨own, st.σ, ok, w⟩ ⟨own', st'.σ, ok', w'⟩ → Q .normal a' w') → wpAnyIn F 0 p .any ops Q fuel listed a w := by
  have fin : ∀ (listed : Array Bool) (st : St) (own : List Loc) (ok : Nat → Prop) (w : World) (a : Act), Region.ready .any ops listed = [] → listed.size = ops.size → Runs p cq ((rem ops.size listed).filterMap (is[·]?)) st st' → Now p cq ⟨own, st.σ, ok, w⟩ st base F a →
      (∀ (own' : List Loc) (ok' : Nat → Prop) (w' : World) (a' : Act), Now p cq ⟨own', st'.σ, ok', w'⟩ st' base F a' → Step ⟨own, st.σ, ok, w⟩ ⟨own', st'.σ, ok', w'⟩ → Q .normal a' w') → Q .normal a w := by
    intro listed st own ok w a hr hsz hR hN hQ
    have hnil : rem ops.size listed = [] := by
      cases hrem : rem ops.size listed with
      | nil => rfl
      | cons i0 r =>
        exfalso
        obtain ⟨i, hmem, hmin⟩ : ∃ i, i ∈ rem ops.size listed ∧ ∀ x ∈ rem ops.size listed, i ≤ x := by
          have := least (P := fun i => i ∈ rem ops.size listed) ⟨i0, by rw [hrem]; simp⟩
          exact this
        obtain ⟨h1, h2⟩ := mem_rem.1 hmem
        have hready : i ∈ Region.ready .any ops listed := by
          rw [mem_ready]
          refine ⟨h2, ops[i], by simp [h1], fun e he hb => ?_⟩
          have hlt := H1 i ops[i] (by simp [h1]) e he hb
          cases hg : listed.getD e.on false with
          | true => rfl
          | false =>
            have hsz' : e.on < listed.size := by omega
            have : e.on ∈ rem ops.size listed := mem_rem.2 ⟨by omega, by simp [Array.getD, hsz'] at hg ⊢; exact hg⟩
            have := hmin _ this
            omega
        rw [hr] at hready
        cases hready
    rw [hnil] at hR
    cases hR
    exact hQ own ok w a hN (Step.refl _)
  intro fuel
  induction fuel with
  | zero =>
    intro listed st own ok w a hsz hcl hlen hR hN hQ
    have hnil : rem ops.size listed = [] := List.length_eq_zero_iff.1 (by omega)
    have hready : Region.ready .any ops listed = [] := by
      cases hr : Region.ready .any ops listed with
      | nil => rfl
      | cons i r =>
        exfalso
        have hm : i ∈ Region.ready .any ops listed := by rw [hr]; simp
        rw [mem_ready] at hm
        obtain ⟨h0, o, ho, _⟩ := hm
        have : i ∈ rem ops.size listed := mem_rem.2 ⟨(Array.getElem?_eq_some_iff.1 ho).1, h0⟩
        rw [hnil] at this
        cases this
    exact ⟨hready, fin listed st own ok w a hready hsz hR hN hQ⟩
  | succ fuel ih =>
    intro listed st own ok w a hsz hcl hlen hR hN hQ
    refine ⟨fun hr => fin listed st own ok w a hr hsz hR hN hQ, fun i hready => ?_⟩
    rw [mem_ready] at hready
    obtain ⟨h0, o, ho, hall⟩ := hready
    have hin : i < ops.size := (Array.getElem?_eq_some_iff.1 ho).1
    have hmem : i ∈ rem ops.size listed := mem_rem.2 ⟨hin, h0⟩
    obtain ⟨pre, post, e1, e2, e3⟩ := rem_split hsz hmem
    have hil : i < is.length := by omega
    have hb : ∀ x ∈ (befores ops.toList []).getD i [], listed.getD x false = true := by
      intro x hx
      have := befores_at ops.toList [] i o (by simpa using ho) (fun e he hb => by simpa using H1 i o ho e he hb) x (by simpa using hx)
      rcases this with ⟨e, he, hbd, rfl⟩ | ⟨e, he, hbd, hx⟩
      · exact hall e he hbd
      · exact hcl e.on (hall e he hbd) x hx
    rw [e1, List.filterMap_append, List.filterMap_cons] at hR
    simp only [List.getElem?_eq_getElem hil] at hR
    obtain ⟨s1, hf, hR'⟩ := front hR (fun x hx => by
      rw [List.mem_filterMap] at hx
      obtain ⟨j, hj, hx⟩ := hx
      rcases H2 j i x is[i] hx (List.getElem?_eq_getElem hil) (e3 j hj) with h | h
      · have h1 := hb j h
        have h2 : listed.getD j true = false := (mem_rem.1 (by rw [e1]; simp [hj] : j ∈ rem ops.size listed)).2
        have hjs : j < listed.size := by have := e3 j hj; omega
        simp [Array.getD, hjs] at h1 h2
        rw [h1] at h2
        cases h2
      · exact h)
    refine step_ok ho (hi i o is[i] ho (List.getElem?_eq_getElem hil)) hf hN (fun own1 ok1 w1 a1 hN1 st1 => ?_)
    refine ih (listed.setIfInBounds i true) s1 own1 ok1 w1 a1 (by simpa using hsz) (fun j hj x hx => ?_) ?_ ?_ hN1 (fun own2 ok2 w2 a2 hN2 s2 => hQ own2 ok2 w2 a2 hN2 (st1.trans s2))
    · by_cases hji : j = i
      · subst hji
        exact getD_set_true (hb x hx)
      · rw [getD_set_ne false (fun h => hji h.symm)] at hj
        exact getD_set_true (hcl j hj x hx)
    · rw [e2]
      rw [e1] at hlen
      simp at hlen ⊢
      omega
    · rw [e2, List.filterMap_append]
      exact hR'
end Go.AE
/- Regions that draw their order, and with them the whole. -/
namespace Go.AE
variable {p : Program} {cq : FuncId → Bool}

theorem range_get : ∀ l : List IOp, (List.range l.length).filterMap (l[·]?) = l
  | [] => rfl
  | a :: l => by
    rw [List.length_cons, List.range_succ_eq_map, List.filterMap_cons]
    simp only [List.getElem?_cons_zero, List.filterMap_map]
    congr 1
    exact range_get l
theorem drawn_ok (hm : p.follows .mixedOrders = true) : DrawnOk p cq := by
  intro id ops is hl hi hd st st' hR own ok w a base F hN Q hQ
  unfold drawOk at hd
  simp only [Bool.and_eq_true, List.all_eq_true] at hd
  obtain ⟨hd1, hd2⟩ := hd
  have H1 : ∀ (j : Nat) (o : Oper), ops[j]? = some o → ∀ e ∈ o.after, Region.binds .any e = true → e.on < j := by
    intro j o ho e he hb
    have h1 := hd1 (o, j) (by rw [List.mem_zipIdx_iff_getElem?]; simpa using ho)
    simp only [Array.all_eq_true_iff_forall_mem] at h1
    have h2 := h1 e he
    simpa [hb] using h2
  have H2 : ∀ (i j : Nat) (x y : IOp), is[i]? = some x → is[j]? = some y → i < j → i ∈ (befores ops.toList []).getD j [] ∨ indep cq x y = true := by
    intro i j x y hx hy hij
    have h1 := hd2 (y, j) (by rw [List.mem_zipIdx_iff_getElem?]; simpa using hy) (x, i) (by rw [List.mem_zipIdx_iff_getElem?]; simpa using hx)
    simp only [hij, decide_true, Bool.not_true, Bool.false_or, Bool.or_eq_true] at h1
    rcases h1 with h | h
    · exact .inl (by simpa using h)
    · exact .inr h
  have hstep : Step ⟨[], [], ok, w⟩ ⟨[], [], ok, w.drew⟩ := by
    refine ⟨⟨fun _ h => h, fun _ _ => rfl, fun b s hs => ?_⟩, Nat.le_refl _, fun _ _ _ => rfl, fun _ h => .inl h, ?_, rfl⟩
    · simp [View.sh] at hs
    · rintro r ⟨b, l, o, h1, _⟩; simp at h1
  obtain ⟨k1, k2⟩ := hN.s.across hstep (ok2 := ok) (fun _ h => h) (fun _ h => .inl h) (fun b hb => hN.s.okLt b hb)
  have hrem : rem ops.size (Array.replicate ops.size false) = List.range ops.size := by
    unfold rem
    rw [List.filter_eq_self]
    intro x hx
    rw [List.mem_range] at hx
    simp [Array.getD, hx]
  have hfm : (List.range ops.size).filterMap (is[·]?) = is := by
    rw [← hl]
    exact range_get is
  refine wpIn_region_any hm (drawn_all hl hi H1 H2 ops.size _ st own ok w.drew a (by simp) (fun j hj => ?_) (by rw [hrem]; simp) (by rw [hrem, hfm]; exact hR) (hN.step k2 k1) (fun own' ok' w' a' hN' s' => hQ own' ok' w' a' hN' (k2.trans s')))
  exfalso
  by_cases h : j < ops.size
  · simp [Array.getD, h] at hj
  · simp [Array.getD, h] at hj
end Go.AE
