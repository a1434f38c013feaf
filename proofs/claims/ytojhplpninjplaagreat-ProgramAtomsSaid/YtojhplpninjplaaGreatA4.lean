import Derived.Test.YtojhplpninjplaaGreatA3
namespace Go.AE
def unfrz:Obj→Obj
  | .pv es rows _=>.pv es rows false
  | .av es rows _=>.av es rows false
  | .map es _=>.map es false
  | o=>o
def frz:Obj→Obj
  | .pv es rows _=>.pv es rows true
  | .av es rows _=>.av es rows true
  | .map es _=>.map es true
  | o=>o
theorem unfrz_frz (o:Obj):unfrz (frz o)=unfrz o:=by cases o<;>rfl
theorem frz_frz (o:Obj):frz (frz o)=frz o:=by cases o<;>rfl
theorem freezeAt_getElem (σ:Store) (b i:Nat):(freezeAt σ b)[i]? = (σ[i]?).map fun o=>if i=b then frz o else o:=by
  unfold freezeAt
  cases ho:σ[b]? with
  | none=>
    by_cases h:i=b
    · subst h;simp [ho]
    · simp [h]
  | some o=>
    have hlt:=(List.getElem?_eq_some_iff.1 ho).1
    by_cases h:i=b
    · subst h
      cases o<;>simp only [frz,ho,Option.map_some,if_true]<;>first | exact List.getElem?_set_self hlt | exact ho
    · cases o<;>simp only [h,if_false,Option.map_id_fun',id]<;>first | exact List.getElem?_set_ne (fun hx=>h hx.symm) | rfl
theorem freezeAll_getElem:∀ (L:List Nat) (σ:Store) (i:Nat),(freezeAll σ L)[i]? = (σ[i]?).map fun o=>if i∈L then frz o else o
  | [],σ,i=>by simp [freezeAll]
  | b :: L,σ,i=>by
    rw [freezeAll,freezeAll_getElem L,freezeAt_getElem]
    cases σ[i]? with
    | none=>rfl
    | some o=>
      simp only [Option.map_some,List.mem_cons,Option.some.injEq]
      by_cases h:i=b
      · by_cases h':i∈L
        · simp only [h,true_or,if_true]
          rw [← h,if_pos h',frz_frz]
        · simp only [h,true_or,if_true]
          rw [← h,if_neg h']
      · simp [h]
theorem freezeAll_comm (σ:Store) (A B:List Nat):freezeAll (freezeAll σ A) B=freezeAll (freezeAll σ B) A:=by
  apply List.ext_getElem?
  intro i
  rw [freezeAll_getElem,freezeAll_getElem,freezeAll_getElem,freezeAll_getElem]
  cases σ[i]? with
  | none=>rfl
  | some o=>
    simp only [Option.map_some,Option.some.injEq]
    by_cases h:i∈A<;>by_cases h':i∈B<;>simp [h,h']
def Alike (σ σ':Store):Prop:=∀ i:Nat,(σ[i]?).map unfrz=(σ'[i]?).map unfrz
theorem Alike.symm {σ σ':Store} (h:Alike σ σ'):Alike σ' σ:=fun i=>(h i).symm
theorem alike_freezeAll (σ:Store) (L:List Nat):Alike σ (freezeAll σ L):=by
  intro i
  rw [freezeAll_getElem]
  cases σ[i]? with
  | none=>rfl
  | some o=>
    simp only [Option.map_some,Option.some.injEq]
    split
    · rw [unfrz_frz]
    · rfl
theorem Alike.at {σ σ':Store} (h:Alike σ σ') (b:Nat):(σ[b]? = none∧σ'[b]? = none)∨(∃ es rows f f',σ[b]? = some (.pv es rows f)∧σ'[b]? = some (.pv es rows f'))∨(∃ es rows f f',σ[b]? = some (.av es rows f)∧σ'[b]? = some (.av es rows f')) ∨
    (∃ es f f',σ[b]? = some (.map es f)∧σ'[b]? = some (.map es f'))∨∃ o,σ[b]? = some o∧σ'[b]? = some o:=by
  have hb:=h b
  cases h1:σ[b]? with
  | none=>
    cases h2:σ'[b]? with
    | none=>exact .inl ⟨rfl,rfl⟩
    | some o'=>rw [h1,h2] at hb;simp at hb
  | some o=>
    cases h2:σ'[b]? with
    | none=>rw [h1,h2] at hb;simp at hb
    | some o'=>
      rw [h1,h2] at hb
      simp only [Option.map_some,Option.some.injEq] at hb
      cases o<;>cases o'<;>simp only [unfrz,Obj.pv.injEq,Obj.av.injEq,Obj.map.injEq,Obj.loop.injEq,reduceCtorEq,and_true] at hb
      · obtain ⟨rfl,rfl⟩:=hb;exact .inr (.inl ⟨_,_,_,_,rfl,rfl⟩)
      · obtain ⟨rfl,rfl⟩:=hb;exact .inr (.inr (.inl ⟨_,_,_,_,rfl,rfl⟩))
      · subst hb;exact .inr (.inr (.inr (.inl ⟨_,_,_,rfl,rfl⟩)))
      · obtain ⟨rfl,rfl,rfl,rfl,rfl,rfl⟩:=hb;exact .inr (.inr (.inr (.inr ⟨_,rfl,rfl⟩)))
      · exact .inr (.inr (.inr (.inr ⟨_,rfl,rfl⟩)))
theorem omap_congr {α β:Type} {f g:α→Option β} {l:List α} (h:∀ x∈l,f x=g x):omap f l=omap g l:=by
  induction l with
  | nil=>rfl
  | cons a r ih=>simp only [omap,h a (by simp),ih (fun x hx=>h x (by simp [hx]))]
theorem purify_alike {σ σ':Store} (h:Alike σ σ'):∀ (k:Nat) (v:AV),purify σ k v=purify σ' k v:=by
  intro k
  induction k with
  | zero=>intro v;rfl
  | succ k ih=>
    intro v
    have e:purify σ k=purify σ' k:=funext ih
    cases v with
    | sl b n=>simp only [purify];rcases h.at b with ⟨h1,h2⟩ | ⟨_,_,_,_,h1,h2⟩ | ⟨_,_,_,_,h1,h2⟩ | ⟨_,_,_,h1,h2⟩ | ⟨_,h1,h2⟩<;>simp only [h1,h2,e]
    | ptr b n i o=>simp only [purify];rcases h.at b with ⟨h1,h2⟩ | ⟨_,_,_,_,h1,h2⟩ | ⟨_,_,_,_,h1,h2⟩ | ⟨_,_,_,h1,h2⟩ | ⟨_,h1,h2⟩<;>simp only [h1,h2,e]
    | map b=>simp only [purify];rcases h.at b with ⟨h1,h2⟩ | ⟨_,_,_,_,h1,h2⟩ | ⟨_,_,_,_,h1,h2⟩ | ⟨_,_,_,h1,h2⟩ | ⟨_,h1,h2⟩<;>simp only [h1,h2,e]
    | _=>simp only [purify,e]
theorem refs_alike {σ σ':Store} (h:Alike σ σ'):∀ (k:Nat) (v:AV),refs σ k v=refs σ' k v:=by
  intro k
  induction k with
  | zero=>intro v;rfl
  | succ k ih=>
    intro v
    have e:refs σ k=refs σ' k:=funext ih
    cases v with
    | sl b n=>simp only [refs];rcases h.at b with ⟨h1,h2⟩ | ⟨_,_,_,_,h1,h2⟩ | ⟨_,_,_,_,h1,h2⟩ | ⟨_,_,_,h1,h2⟩ | ⟨_,h1,h2⟩<;>simp only [h1,h2,e]
    | ptr b n i o=>simp only [refs];rcases h.at b with ⟨h1,h2⟩ | ⟨_,_,_,_,h1,h2⟩ | ⟨_,_,_,_,h1,h2⟩ | ⟨_,_,_,h1,h2⟩ | ⟨_,h1,h2⟩<;>simp only [h1,h2,e]
    | map b=>simp only [refs];rcases h.at b with ⟨h1,h2⟩ | ⟨_,_,_,_,h1,h2⟩ | ⟨_,_,_,_,h1,h2⟩ | ⟨_,_,_,h1,h2⟩ | ⟨_,h1,h2⟩<;>simp only [h1,h2,e]
    | _=>simp only [refs,e]
theorem loadV_alike {σ σ':Store} (h:Alike σ σ') (s:Nat) (g:Bool) (a:AV):loadV σ s g a=loadV σ' s g a:=by
  cases a with
  | ptr b n i o=>simp only [loadV];rcases h.at b with ⟨h1,h2⟩ | ⟨_,_,_,_,h1,h2⟩ | ⟨_,_,_,_,h1,h2⟩ | ⟨_,_,_,h1,h2⟩ | ⟨_,h1,h2⟩<;>simp only [h1,h2]
  | p v=>cases v<;>rfl
  | _=>rfl
theorem svec_alike {σ σ':Store} (h:Alike σ σ') (b:Nat):svec σ b=svec σ' b:=by
  unfold svec
  rcases h.at b with ⟨h1,h2⟩ | ⟨_,_,_,_,h1,h2⟩ | ⟨_,_,_,_,h1,h2⟩ | ⟨_,_,_,h1,h2⟩ | ⟨_,h1,h2⟩<;>simp only [h1,h2]<;>rfl
theorem slen_alike {σ σ':Store} (h:Alike σ σ') (b:Nat):slen σ b=slen σ' b:=by
  unfold slen
  rcases h.at b with ⟨h1,h2⟩ | ⟨_,_,_,_,h1,h2⟩ | ⟨_,_,_,_,h1,h2⟩ | ⟨_,_,_,h1,h2⟩ | ⟨_,h1,h2⟩<;>simp only [h1,h2]<;>rfl
theorem lenS_alike {σ σ':Store} (h:Alike σ σ') (a:AV):lenS σ a=lenS σ' a:=by
  cases a with
  | sl b n=>simp only [lenS,slen_alike h]
  | p v=>cases v<;>rfl
  | _=>rfl
theorem lenM_alike {σ σ':Store} (h:Alike σ σ') (a:AV):lenM σ a=lenM σ' a:=by
  cases a with
  | map b=>simp only [lenM];rcases h.at b with ⟨h1,h2⟩ | ⟨_,_,_,_,h1,h2⟩ | ⟨_,_,_,_,h1,h2⟩ | ⟨_,_,_,h1,h2⟩ | ⟨_,h1,h2⟩<;>simp only [h1,h2]
  | p v=>cases v<;>rfl
  | _=>rfl
section
variable (p:Program) (cq:FuncId→Bool)
def OpF (τ:Tm) (σ:Store) (op:XOp) (v:AV) (σ':Store):Prop:=OpFact p cq ⟨τ,σ,0,none⟩ op v σ'
end
variable {p:Program} {cq:FuncId→Bool}
theorem rowsP_alike {σ σ':Store} (h:Alike σ σ') (a:AV):rowsP σ a=rowsP σ' a:=by
  cases a with
  | sl b n=>simp only [rowsP];rcases h.at b with ⟨h1,h2⟩ | ⟨_,_,_,_,h1,h2⟩ | ⟨_,_,_,_,h1,h2⟩ | ⟨_,_,_,h1,h2⟩ | ⟨_,h1,h2⟩<;>simp only [h1,h2]
  | p v=>cases v<;>rfl
  | _=>rfl
theorem plain_q0 {op:XOp} (hk:op.kind cq=.q0) {σ σ':Store} {τ:Tm} {v:AV} (h:plain σ τ op=some (v,σ')):σ'=σ∧∀ σ2,plain σ2 τ op=some (v,σ2):=by
  have quietly:plain σ τ op=(quiet σ τ op).map (fun v=>(v,σ))→(∀ σ2,plain σ2 τ op=(quiet σ τ op).map fun v=>(v,σ2))→σ'=σ∧∀ σ2,plain σ2 τ op=some (v,σ2):=by
    intro h1 h2
    rw [h1] at h
    simp only [Option.map_eq_some_iff,Prod.mk.injEq] at h
    obtain ⟨u,hu,rfl,rfl⟩:=h
    exact ⟨rfl,fun σ2=>by rw [h2,hu];rfl⟩
  cases op<;>simp only [XOp.kind,reduceCtorEq] at hk
  case mv x eg=>
    cases eg with
    | true=>simp at hk
    | false=>
      simp only [plain] at h ⊢
      split at h
      · rename_i he
        simp only [Bool.false_eq_true,if_false,Option.some.injEq,Prod.mk.injEq] at h
        obtain ⟨rfl,rfl⟩:=h
        exact ⟨rfl,fun σ2=>by simp⟩
      · rename_i u hne
        simp only [Option.some.injEq,Prod.mk.injEq] at h
        obtain ⟨rfl,rfl⟩:=h
        exact ⟨rfl,fun σ2=>rfl⟩
  case callf f as=>split at hk<;>cases hk
  case blist es z n ps=>
    simp only [plain,Option.map_eq_some_iff,Prod.mk.injEq] at h
    obtain ⟨qs,h1,rfl,rfl⟩:=h
    exact ⟨rfl,fun σ2=>by simp only [plain,h1];rfl⟩
  all_goals exact quietly rfl (fun _=>rfl)
theorem plain_q {op:XOp} (hk:op.kind cq=.q) {σ σ':Store} {τ:Tm} {v:AV} (h:plain σ τ op=some (v,σ')):σ'=σ∧(∀ σ2,Alike σ σ2→plain σ2 τ op=some (v,σ2))∧∀ ext,plain (σ++ext) τ op=some (v,σ++ext):=by
  have quietly:plain σ τ op=(quiet σ τ op).map (fun v=>(v,σ))→(∀ σ2,plain σ2 τ op=(quiet σ2 τ op).map fun v=>(v,σ2))→(∀ σ2,Alike σ σ2→quiet σ τ op=quiet σ2 τ op)→(∀ ext u,quiet σ τ op=some u→quiet (σ++ext) τ op=some u) →
      σ'=σ∧(∀ σ2,Alike σ σ2→plain σ2 τ op=some (v,σ2))∧∀ ext,plain (σ++ext) τ op=some (v,σ++ext):=by
    intro h1 h2 h3 h4
    rw [h1] at h
    simp only [Option.map_eq_some_iff,Prod.mk.injEq] at h
    obtain ⟨u,hu,rfl,rfl⟩:=h
    exact ⟨rfl,fun σ2 ha=>by rw [h2,← h3 σ2 ha,hu];rfl,fun ext=>by rw [h2,h4 ext u hu];rfl⟩
  have app:∀ (ext:Store) (b:Nat) (o:Obj),σ[b]? = some o→(σ++ext)[b]? = some o:=fun ext b o ho=>by rw [List.getElem?_append_left (List.getElem?_eq_some_iff.1 ho).1];exact ho
  cases op<;>simp only [XOp.kind,reduceCtorEq] at hk
  case mv x eg=>cases eg<;>simp at hk
  case callf f as=>split at hk<;>cases hk
  case load s g x=>
    refine quietly rfl (fun _=>rfl) (fun σ2 ha=>loadV_alike ha s g _) (fun ext u hu=>?_)
    simp only [quiet] at hu ⊢
    generalize x.val τ=xv at hu
    cases xv with
    | ptr b n i o=>
      simp only [loadV] at hu ⊢
      cases hb:σ[b]? with
      | none=>rw [hb] at hu;cases hu
      | some ob=>
        have e:(σ++ext)[b]? = σ[b]? := by { rw [hb];exact app ext b ob hb }
        simp only [e]
        exact hu
    | p q=>cases q<;>exact hu
    | _=>exact hu
  case iadrS es x i=>
    refine quietly rfl (fun _=>rfl) (fun σ2 ha=>?_) (fun ext u hu=>?_)
    · simp only [quiet,svec_alike ha]
    · simp only [quiet] at hu ⊢
      cases hn:natOf (i.val τ) with
      | none=>rw [hn] at hu;cases hu
      | some n=>
        rw [hn] at hu
        simp only [Option.bind_some] at hu ⊢
        generalize x.val τ=xv at hu
        cases xv with
        | sl b m=>
          simp only [svec] at hu ⊢
          cases hb:σ[b]? with
          | none=>simp only [hb,Option.bind_none] at hu;simp at hu
          | some ob => have e : (σ ++ ext)[b]? = σ[b]? := by { rw [hb]; exact app ext b ob hb }
                       simp only [e];exact hu
        | p q=>cases q<;>exact hu
        | _=>exact hu
  case slcS es x lo hi mx=>exact quietly rfl (fun _=>rfl) (fun _ _=>rfl) (fun _ _ hu=>hu)
  case lookup kl z x k ok=>
    refine quietly rfl (fun _=>rfl) (fun σ2 ha=>?_) (fun ext u hu=>?_)
    · simp only [quiet]
      generalize x.val τ=xv
      cases xv with
      | map b=>rcases ha.at b with ⟨h1,h2⟩ | ⟨_,_,_,_,h1,h2⟩ | ⟨_,_,_,_,h1,h2⟩ | ⟨_,_,_,h1,h2⟩ | ⟨_,h1,h2⟩<;>simp only [h1,h2]
      | p q=>cases q<;>rfl
      | _=>rfl
    · simp only [quiet] at hu ⊢
      generalize x.val τ=xv at hu
      cases xv with
      | map b=>
        cases hb:σ[b]? with
        | none=>
          simp only [hb] at hu
          split at hu
          · split at hu
            · cases hu
            · cases hu
          · cases hu
        | some ob=>
        have e:(σ++ext)[b]? = σ[b]? := by { rw [hb];exact app ext b ob hb }
        simp only [e]
        exact hu
      | p q=>cases q<;>exact hu
      | _=>exact hu
  case lenS x=>
    refine quietly rfl (fun _=>rfl) (fun σ2 ha=>by simp only [quiet,lenS_alike ha]) (fun ext u hu=>?_)
    simp only [quiet] at hu ⊢
    generalize x.val τ=xv at hu
    cases xv with
    | sl b n=>
      simp only [lenS,slen] at hu ⊢
      cases hb:σ[b]? with
      | none=>simp [hb] at hu
      | some ob=>
        have e:(σ++ext)[b]? = σ[b]? := by { rw [hb];exact app ext b ob hb }
        simp only [e]
        exact hu
    | p q=>cases q<;>exact hu
    | _=>exact hu
  case lenM x=>
    refine quietly rfl (fun _=>rfl) (fun σ2 ha=>by simp only [quiet,lenM_alike ha]) (fun ext u hu=>?_)
    simp only [quiet] at hu ⊢
    generalize x.val τ=xv at hu
    cases xv with
    | map b=>
      simp only [lenM] at hu ⊢
      cases hb:σ[b]? with
      | none=>rw [hb] at hu;cases hu
      | some ob=>
        have e:(σ++ext)[b]? = σ[b]? := by { rw [hb];exact app ext b ob hb }
        simp only [e]
        exact hu
    | p q=>cases q<;>exact hu
    | _=>exact hu
  case b2s x=>
    refine quietly rfl (fun _=>rfl) (fun σ2 ha=>by simp only [quiet,rowsP_alike ha]) (fun ext u hu=>?_)
    simp only [quiet] at hu ⊢
    generalize x.val τ=xv at hu
    cases xv with
    | sl b n=>
      simp only [rowsP] at hu ⊢
      cases hb:σ[b]? with
      | none=>rw [hb] at hu;cases hu
      | some ob=>
        have e:(σ++ext)[b]? = σ[b]? := by { rw [hb];exact app ext b ob hb }
        simp only [e]
        exact hu
    | p q=>cases q<;>exact hu
    | _=>exact hu
theorem plain_pure {i:IOp} {σ σ':Store} {τ:Tm} {v:AV} (hp:pureRead τ i=true) (h:plain σ τ i.op=some (v,σ')):σ'=σ∧∀ σ2,plain σ2 τ i.op=some (v,σ2):=by
  obtain ⟨d,op,g⟩:=i
  have quietly:plain σ τ op=(quiet σ τ op).map (fun v=>(v,σ))→(∀ σ2,plain σ2 τ op=(quiet σ τ op).map fun v=>(v,σ2))→σ'=σ∧∀ σ2,plain σ2 τ op=some (v,σ2):=by
    intro h1 h2
    rw [show plain σ τ (IOp.mk d op g).op=plain σ τ op from rfl,h1] at h
    simp only [Option.map_eq_some_iff,Prod.mk.injEq] at h
    obtain ⟨u,hu,rfl,rfl⟩:=h
    exact ⟨rfl,fun σ2=>by rw [h2,hu];rfl⟩
  have c:∀ x:O,(match x.val τ with | .p _=>true | _=>false)=true→∃ q,x.val τ=.p q:=by
    intro x hx
    split at hx
    · exact ⟨_,by assumption⟩
    · cases hx
  cases op<;>simp only [pureRead,Bool.false_eq_true] at hp
  case load s g' x=>
    obtain ⟨q,hq⟩:=c x hp
    exact quietly rfl fun σ2=>by simp only [plain,quiet,hq];cases q<;>rfl
  case iadrS es x i=>
    obtain ⟨q,hq⟩:=c x hp
    exact quietly rfl fun σ2=>by simp only [plain,quiet,hq];cases q<;>rfl
  case slcS es x lo hi mx=>exact quietly rfl fun σ2=>rfl
  case lookup kl z x k ok=>
    obtain ⟨q,hq⟩:=c x hp
    exact quietly rfl fun σ2=>by simp only [plain,quiet,hq];cases q<;>rfl
  case lenS x=>
    obtain ⟨q,hq⟩:=c x hp
    exact quietly rfl fun σ2=>by simp only [plain,quiet,hq];cases q<;>rfl
  case lenM x=>
    obtain ⟨q,hq⟩:=c x hp
    exact quietly rfl fun σ2=>by simp only [plain,quiet,hq];cases q<;>rfl
  case b2s x=>
    obtain ⟨q,hq⟩:=c x hp
    exact quietly rfl fun σ2=>by simp only [plain,quiet,hq];cases q<;>rfl
theorem plain_a {op:XOp} (hk:op.kind cq=.a) {σ σ':Store} {τ:Tm} {v:AV} (h:plain σ τ op=some (v,σ')):∃ ext,σ'=σ++ext∧∀ σ2:Store,σ2.length=σ.length→plain σ2 τ op=some (v,σ2++ext):=by
  have eag:∀ (cs:List AV) (σ:Store),∃ ext,(eagers cs σ).2=σ++ext∧∀ σ2:Store,σ2.length=σ.length→(eagers cs σ2).1=(eagers cs σ).1∧(eagers cs σ2).2=σ2++ext:=by
    intro cs
    induction cs with
    | nil=>intro σ;exact ⟨[],by simp [eagers],fun σ2 _=>by simp [eagers]⟩
    | cons c cs ih=>
      intro σ
      cases c<;>first
        | (obtain ⟨ext,he,h2⟩:=ih σ
           exact ⟨ext,by simpa [eagers] using he,fun σ2 hl=>by simpa [eagers] using h2 σ2 hl⟩)
        | (obtain ⟨ext,he,h2⟩:=ih (σ++[.pv 0 [] false])
           refine ⟨.pv 0 [] false :: ext,by simp [eagers,he],fun σ2 hl=>?_⟩
           have:=h2 (σ2++[.pv 0 [] false]) (by simp [hl])
           simp [eagers,this.1,this.2,hl])
  have var:∀ (cs:List AV) (n:Nat),∃ ext,(eagers cs σ).2++[mkObj n (eagers cs σ).1]=σ++ext∧∀ σ2:Store,σ2.length=σ.length→(eagers cs σ2).2.length=(eagers cs σ).2.length∧(eagers cs σ2).2++[mkObj n (eagers cs σ2).1]=σ2++ext:=by
    intro cs n
    obtain ⟨ext,he,h2⟩:=eag cs σ
    refine ⟨ext++[mkObj n (eagers cs σ).1],by rw [he,List.append_assoc],fun σ2 hl=>?_⟩
    obtain ⟨h3,h4⟩:=h2 σ2 hl
    exact ⟨by rw [h4,he,List.length_append,List.length_append,hl],by rw [h3,h4,List.append_assoc]⟩
  cases op<;>simp only [XOp.kind,reduceCtorEq] at hk
  case mv x eg=>
    cases eg with
    | false=>simp at hk
    | true=>
      simp only [plain] at h ⊢
      split at h
      · rename_i hx
        simp only [if_true,Option.some.injEq,Prod.mk.injEq] at h
        obtain ⟨rfl,rfl⟩:=h
        exact ⟨_,rfl,fun σ2 hl=>by simp [hl]⟩
      · rename_i u hx
        simp only [Option.some.injEq,Prod.mk.injEq] at h
        obtain ⟨rfl,rfl⟩:=h
        exact ⟨[],by simp,fun σ2 _=>by simp⟩
  case callf f as=>split at hk<;>cases hk
  case alloc z s=>
    simp only [plain,Option.some.injEq,Prod.mk.injEq] at h ⊢
    obtain ⟨rfl,rfl⟩:=h
    obtain ⟨ext,he,h2⟩:=var z s
    exact ⟨ext,he,fun σ2 hl=>⟨by rw [(h2 σ2 hl).1],(h2 σ2 hl).2⟩⟩
  case init s g x ro=>
    simp only [plain,Option.bind_eq_some_iff] at h ⊢
    obtain ⟨cs,hcs,h⟩:=h
    split at h
    · rename_i hro
      split at h
      · rename_i ps hps
        simp only [Option.some.injEq,Prod.mk.injEq] at h
        obtain ⟨rfl,rfl⟩:=h
        exact ⟨[],by simp,fun σ2 _=>⟨cs,hcs,by simp [hro,hps]⟩⟩
      · rename_i hps
        simp only [Option.some.injEq,Prod.mk.injEq] at h
        obtain ⟨rfl,rfl⟩:=h
        exact ⟨_,rfl,fun σ2 hl=>⟨cs,hcs,by simp [hro,hps,hl]⟩⟩
    · rename_i hro
      simp only [Option.some.injEq,Prod.mk.injEq] at h
      obtain ⟨rfl,rfl⟩:=h
      obtain ⟨ext,he,h2⟩:=var cs s
      exact ⟨ext,he,fun σ2 hl=>⟨cs,hcs,by rw [if_neg hro];simp only [Option.some.injEq,Prod.mk.injEq];exact ⟨by rw [(h2 σ2 hl).1],(h2 σ2 hl).2⟩⟩⟩
  case box s g x ro=>
    simp only [plain,Option.bind_eq_some_iff] at h ⊢
    obtain ⟨cs,hcs,h⟩:=h
    split at h
    · rename_i hro
      split at h
      · rename_i ps hps
        simp only [Option.some.injEq,Prod.mk.injEq] at h
        obtain ⟨rfl,rfl⟩:=h
        exact ⟨[],by simp,fun σ2 _=>⟨cs,hcs,by simp [hro,hps]⟩⟩
      · rename_i hps
        simp only [Option.some.injEq,Prod.mk.injEq] at h
        obtain ⟨rfl,rfl⟩:=h
        exact ⟨_,rfl,fun σ2 hl=>⟨cs,hcs,by simp [hro,hps,hl]⟩⟩
    · rename_i hro
      simp only [Option.some.injEq,Prod.mk.injEq] at h
      obtain ⟨rfl,rfl⟩:=h
      obtain ⟨ext,he,h2⟩:=var cs s
      exact ⟨ext,he,fun σ2 hl=>⟨cs,hcs,by rw [if_neg hro];simp only [Option.some.injEq,Prod.mk.injEq];exact ⟨by rw [(h2 σ2 hl).1],(h2 σ2 hl).2⟩⟩⟩
  case bslice es z n ps=>
    simp only [plain,Option.map_eq_some_iff,Prod.mk.injEq] at h ⊢
    obtain ⟨cs,h1,rfl,rfl⟩:=h
    exact ⟨_,rfl,fun σ2 hl=>⟨cs,h1,by rw [hl],rfl⟩⟩
  case mkmap=>
    simp only [plain,Option.some.injEq,Prod.mk.injEq] at h ⊢
    obtain ⟨rfl,rfl⟩:=h
    exact ⟨_,rfl,fun σ2 hl=>⟨by rw [hl],rfl⟩⟩
  case mkslice es b z l c=>
    simp only [plain,Option.bind_eq_some_iff] at h ⊢
    obtain ⟨l',h1,c',h2,h⟩:=h
    split at h
    · rename_i hle
      split at h
      · rename_i zz hz
        simp only [Option.some.injEq,Prod.mk.injEq] at h
        obtain ⟨rfl,rfl⟩:=h
        exact ⟨_,rfl,fun σ2 hl=>⟨l',h1,c',h2,by simp [hle,hl]⟩⟩
      · rename_i hz
        simp only [Option.some.injEq,Prod.mk.injEq] at h
        obtain ⟨rfl,rfl⟩:=h
        exact ⟨_,rfl,fun σ2 hl=>⟨l',h1,c',h2,by simp only [hle,and_self,if_true,hl]⟩⟩
    · cases h
theorem opF_plain {τ:Tm} {σ σ':Store} {op:XOp} {v:AV} (hc:op.call? = false):OpF p cq τ σ op v σ'↔plain σ τ op=some (v,σ'):=by
  unfold OpF OpFact
  split
  · simp [XOp.call?] at hc
  · simp [XOp.call?] at hc
  · simp [XOp.call?] at hc
  · rfl
theorem kind_call {op:XOp} (h:op.kind cq=.q0∨op.kind cq=.q∨op.kind cq=.a):op.call? = false:=by
  cases op<;>first | rfl | skip
  · simp only [XOp.kind] at h
    split at h<;>simp at h
  · simp [XOp.kind] at h
  · simp [XOp.kind] at h
theorem freezeAt_app {σ ext:Store} {b:Nat} (h:b<σ.length):freezeAt (σ++ext) b=freezeAt σ b++ext:=by
  unfold freezeAt
  rw [List.getElem?_append_left h]
  cases σ[b]? with
  | none=>rfl
  | some o=>cases o<;>simp only [List.set_append_left _ _ h]
theorem freezeAt_len {σ:Store} {b:Nat}:(freezeAt σ b).length=σ.length:=by unfold freezeAt;split<;>simp
theorem freezeAll_len:∀ {L:List Nat} {σ:Store},(freezeAll σ L).length=σ.length
  | [],_=>rfl
  | b :: L,σ=>by rw [freezeAll,freezeAll_len,freezeAt_len]
theorem freezeAll_app:∀ {L:List Nat} {σ ext:Store},(∀ b∈L,b<σ.length)→freezeAll (σ++ext) L=freezeAll σ L++ext
  | [],_,_,_=>rfl
  | b :: L,σ,ext,h=>by
    rw [freezeAll,freezeAll,freezeAt_app (h b (by simp))]
    exact freezeAll_app fun c hc=>by rw [freezeAt_len];exact h c (by simp [hc])
theorem omap_mem {α β:Type} {f:α→Option β}:∀ {l:List α} {r:List β},omap f l=some r→∀ a∈l,∃ b,f a=some b
  | [],_,_,a,ha=>by simp at ha
  | x :: l,r,h,a,ha=>by
    simp only [omap] at h
    split at h
    · rename_i b hb
      split at h
      · rename_i bs hbs
        rcases List.mem_cons.1 ha with rfl | ha
        · exact ⟨b,hb⟩
        · exact omap_mem hbs a ha
      · cases h
    · cases h
theorem fm_congr {α β:Type} {f g:α→List β} {l:List α} (h:∀ a∈l,f a=g a):l.flatMap f=l.flatMap g:=by
  rw [List.flatMap_def,List.flatMap_def,List.map_congr_left h]
def AppOk (σ ext:Store) (k:Nat) (l:List AV):Prop:=omap (purify (σ++ext) k) l=omap (purify σ k) l∧l.flatMap (refs (σ++ext) k)=l.flatMap (refs σ k)∧∀ b∈l.flatMap (refs σ k),b<σ.length
theorem purify_app {σ:Store} (ext:Store):∀ (k:Nat) (v:AV) (q:PV),purify σ k v=some q→purify (σ++ext) k v=some q∧refs (σ++ext) k v=refs σ k v∧∀ b∈refs σ k v,b<σ.length:=by
  intro k
  induction k with
  | zero=>intro v q h;cases h
  | succ k ih=>
    intro v q h
    have app:∀ (b:Nat) (o:Obj),σ[b]? = some o→(σ++ext)[b]? = some o∧b<σ.length:=fun b o ho=>⟨by rw [List.getElem?_append_left (List.getElem?_eq_some_iff.1 ho).1];exact ho,(List.getElem?_eq_some_iff.1 ho).1⟩
    have list:∀ (l:List AV) (r:List PV),omap (purify σ k) l=some r→AppOk σ ext k l:=by
      intro l r hr
      refine ⟨omap_congr fun a ha=>?_,fm_congr fun a ha=>?_,fun b hb=>?_⟩
      · obtain ⟨b,hb⟩:=omap_mem hr a ha
        rw [hb,(ih a b hb).1]
      · obtain ⟨b,hb⟩:=omap_mem hr a ha
        exact (ih a b hb).2.1
      · obtain ⟨a,ha,hb⟩:=List.mem_flatMap.1 hb
        obtain ⟨q',hq'⟩:=omap_mem hr a ha
        exact (ih a q' hq').2.2 b hb
    cases v with
    | any=>cases h
    | yield l=>cases h
    | p q'=>exact ⟨h,rfl,by simp [refs]⟩
    | nils=>exact ⟨h,rfl,by simp [refs]⟩
    | fn f cap=>
      simp only [purify] at h
      obtain ⟨r,hr,rfl⟩:=Option.map_eq_some_iff.1 h
      obtain ⟨l1,l2,l3⟩:=list cap r hr
      exact ⟨by simp only [purify,l1,hr];rfl,by simp only [refs];exact l2,by simp only [refs];exact l3⟩
    | agg cs=>
      simp only [purify] at h
      obtain ⟨r,hr,rfl⟩:=Option.map_eq_some_iff.1 h
      obtain ⟨l1,l2,l3⟩:=list cs r hr
      exact ⟨by simp only [purify,l1,hr];rfl,by simp only [refs];exact l2,by simp only [refs];exact l3⟩
    | tup cs=>
      simp only [purify] at h
      obtain ⟨r,hr,rfl⟩:=Option.map_eq_some_iff.1 h
      obtain ⟨l1,l2,l3⟩:=list cs r hr
      exact ⟨by simp only [purify,l1,hr];rfl,by simp only [refs];exact l2,by simp only [refs];exact l3⟩
    | sl b n=>
      simp only [purify] at h
      cases ho:σ[b]? with
      | none=>simp [ho] at h
      | some o=>
        obtain ⟨h1,hlt⟩:=app b o ho
        simp only [ho] at h
        cases o with
        | pv es rows f=>exact ⟨by simp only [purify,h1];exact h,by simp only [refs,h1,ho],by simp only [refs,ho];intro c hc;rw [List.mem_singleton] at hc;rw [hc];exact hlt⟩
        | av es rows f=>
          simp only at h
          split at h
          · rename_i hl
            obtain ⟨rs,hrs,rfl⟩:=Option.map_eq_some_iff.1 h
            have e:∀ r∈rows,AppOk σ ext k r:=fun r hr=>by obtain ⟨x,hx⟩:=omap_mem hrs r hr;exact list r x hx
            refine ⟨?_,?_,?_⟩
            · simp only [purify,h1]
              rw [if_pos hl,omap_congr (fun r hr=>(e r hr).1),hrs];rfl
            · simp only [refs,h1,ho]
              rw [fm_congr fun r hr=>(e r hr).2.1]
            · simp only [refs,ho]
              intro c hc
              rcases List.mem_cons.1 hc with rfl | hc
              · exact hlt
              · obtain ⟨r,hr,hc⟩:=List.mem_flatMap.1 hc
                exact (e r hr).2.2 c hc
          · cases h
        | map=>cases h
        | loop=>cases h
        | gone=>cases h
    | ptr b n i oo=>
      simp only [purify] at h
      cases ho:σ[b]? with
      | none=>simp [ho] at h
      | some o=>
        obtain ⟨h1,hlt⟩:=app b o ho
        simp only [ho] at h
        cases o with
        | pv es rows f=>exact ⟨by simp only [purify,h1];exact h,by simp only [refs,h1,ho],by simp only [refs,ho];intro c hc;rw [List.mem_singleton] at hc;rw [hc];exact hlt⟩
        | av es rows f=>
          simp only at h
          split at h
          · rename_i hl
            obtain ⟨row,hrow,h⟩:=Option.bind_eq_some_iff.1 h
            obtain ⟨rs,hrs,rfl⟩:=Option.map_eq_some_iff.1 h
            have e:=list row rs hrs
            refine ⟨?_,?_,?_⟩
            · simp only [purify,h1]
              rw [if_pos hl,hrow,Option.bind_some,e.1,hrs];rfl
            · simp only [refs,h1,ho,hrow,Option.getD_some]
              rw [e.2.1]
            · simp only [refs,ho,hrow,Option.getD_some]
              intro c hc
              rcases List.mem_cons.1 hc with rfl | hc
              · exact hlt
              · exact e.2.2 c hc
          · cases h
        | map=>cases h
        | loop=>cases h
        | gone=>cases h
    | map b=>
      simp only [purify] at h
      cases ho:σ[b]? with
      | none=>simp [ho] at h
      | some o=>
        obtain ⟨h1,hlt⟩:=app b o ho
        simp only [ho] at h
        cases o with
        | map es f=>
          simp only at h
          obtain ⟨rs,hrs,rfl⟩:=Option.map_eq_some_iff.1 h
          have e:∀ x∈es,∃ q,purify σ k x.2=some q:=fun x hx=>by
            obtain ⟨y,hy⟩:=omap_mem hrs x hx
            obtain ⟨q,hq,_⟩:=Option.map_eq_some_iff.1 hy
            exact ⟨q,hq⟩
          refine ⟨?_,?_,?_⟩
          · simp only [purify,h1]
            rw [omap_congr (g:=fun e:PV×AV=>(purify σ k e.2).map fun r=>(e.1,r)) fun x hx=>by obtain ⟨q,hq⟩:=e x hx;rw [hq,(ih _ q hq).1],hrs];rfl
          · simp only [refs,h1,ho]
            rw [fm_congr fun x hx=>by obtain ⟨q,hq⟩:=e x hx;exact (ih _ q hq).2.1]
          · simp only [refs,ho]
            intro c hc
            rcases List.mem_cons.1 hc with rfl | hc
            · exact hlt
            · obtain ⟨x,hx,hc⟩:=List.mem_flatMap.1 hc
              obtain ⟨q,hq⟩:=e x hx
              exact (ih _ q hq).2.2 c hc
        | _=>cases h
theorem purifys_app {σ:Store} (ext:Store) {l:List AV} {r:List PV} {k:Nat} (hr:omap (purify σ k) l=some r):AppOk σ ext k l:=by
  refine ⟨omap_congr fun a ha=>?_,fm_congr fun a ha=>?_,fun b hb=>?_⟩
  · obtain ⟨b,hb⟩:=omap_mem hr a ha
    rw [hb,(purify_app ext k a b hb).1]
  · obtain ⟨b,hb⟩:=omap_mem hr a ha
    exact (purify_app ext k a b hb).2.1
  · obtain ⟨a,ha,hb⟩:=List.mem_flatMap.1 hb
    obtain ⟨q',hq'⟩:=omap_mem hr a ha
    exact (purify_app ext k a q' hq').2.2 b hb
theorem opF_c {op:XOp} (hk:op.kind cq=.c) {τ:Tm} {σ σ':Store} {v:AV} (h:OpF p cq τ σ op v σ'):∃ L:List Nat,σ'=freezeAll σ L∧(∀ σ2,Alike σ σ2→OpF p cq τ σ2 op v (freezeAll σ2 L))∧∀ ext,OpF p cq τ (σ++ext) op v (freezeAll σ L++ext):=by
  cases op<;>simp only [XOp.kind,reduceCtorEq] at hk
  case mv x eg=>cases eg<;>simp at hk
  case callf f as=>
    split at hk
    · rename_i hcq
      have h':CallFact p cq f (as.map (·.val τ)) σ v σ':=h
      rcases h' with ⟨ps,r,h1,h2,h3,h4⟩ | ⟨h1,_⟩
      · have hp:∀ σ2,Alike σ σ2→omap (purify σ2 depth) (as.map (·.val τ))=some ps:=fun σ2 ha=>by
          rw [← h1]
          exact (omap_congr (fun x _=>purify_alike ha depth x)).symm
        have hr:∀ σ2,Alike σ σ2→(as.map (·.val τ)).flatMap (refs σ2 depth)=(as.map (·.val τ)).flatMap (refs σ depth):=fun σ2 ha=>by
          have:refs σ2 depth=refs σ depth:=funext fun x=>(refs_alike ha depth x).symm
          rw [this]
        by_cases hf:r.flat=true
        · refine ⟨[],by rw [h4];simp [freezeFor,hf,freezeAll],fun σ2 ha=>?_,fun ext=>.inl ⟨ps,r,(purifys_app ext h1).1.trans h1,h2,h3,by simp [freezeFor,hf,freezeAll]⟩⟩
          exact .inl ⟨ps,r,hp σ2 ha,h2,h3,by simp [freezeFor,hf,freezeAll]⟩
        · refine ⟨(as.map (·.val τ)).flatMap (refs σ depth),by rw [h4];simp [freezeFor,hf],fun σ2 ha=>?_,fun ext=>.inl ⟨ps,r,(purifys_app ext h1).1.trans h1,h2,h3,?_⟩⟩
          rotate_left
          · obtain ⟨_,a2,a3⟩:=purifys_app ext h1
            have:freezeFor (σ++ext) (as.map (·.val τ)) r=freezeAll (σ++ext) ((as.map (·.val τ)).flatMap (refs (σ++ext) depth)):=by simp [freezeFor,hf]
            rw [show (({ τ:=τ,σ:=σ++ext,nt:=0,rd:=none }:St).σ)=σ++ext from rfl,this,a2]
            exact (freezeAll_app a3).symm
          refine .inl ⟨ps,r,hp σ2 ha,h2,h3,?_⟩
          have:freezeFor σ2 (as.map (·.val τ)) r=freezeAll σ2 ((as.map (·.val τ)).flatMap (refs σ2 depth)):=by simp [freezeFor,hf]
          rw [show (({ τ:=τ,σ:=σ2,nt:=0,rd:=none }:St).σ)=σ2 from rfl,this,hr σ2 ha]
      · rw [hcq] at h1;cases h1
    · cases hk
theorem commute {x y:XOp} {τ:Tm} {σ σ1 σ2:Store} {vx vy:AV} (hx:OpF p cq τ σ x vx σ1) (hy:OpF p cq τ σ1 y vy σ2) (hk:kindsOk (x.kind cq) (y.kind cq)=true):∃ σ1',OpF p cq τ σ y vy σ1'∧OpF p cq τ σ1' x vx σ2:=by
  by_cases hx0:x.kind cq=.q0
  · have hc:=kind_call (.inl hx0)
    obtain ⟨rfl,h⟩:=plain_q0 hx0 ((opF_plain hc).1 hx)
    exact ⟨σ2,hy,(opF_plain hc).2 (h σ2)⟩
  by_cases hy0:y.kind cq=.q0
  · have hc:=kind_call (.inl hy0)
    obtain ⟨rfl,h⟩:=plain_q0 hy0 ((opF_plain hc).1 hy)
    exact ⟨σ,(opF_plain hc).2 (h σ),hx⟩
  cases hkx:x.kind cq with
  | q0=>exact absurd hkx hx0
  | q=>
    have hc:=kind_call (.inr (.inl hkx))
    obtain ⟨rfl,h1,h2⟩:=plain_q hkx ((opF_plain hc).1 hx)
    cases hky:y.kind cq with
    | q0=>exact absurd hky hy0
    | q=>
      obtain ⟨rfl,_,_⟩:=plain_q hky ((opF_plain (kind_call (.inr (.inl hky)))).1 hy)
      exact ⟨_,hy,hx⟩
    | c=>
      obtain ⟨L,rfl,_⟩:=opF_c hky hy
      exact ⟨_,hy,(opF_plain hc).2 (h1 _ (alike_freezeAll _ L))⟩
    | a=>
      obtain ⟨ext,rfl,_⟩:=plain_a hky ((opF_plain (kind_call (.inr (.inr hky)))).1 hy)
      exact ⟨_,hy,(opF_plain hc).2 (h2 ext)⟩
    | w=>rw [hkx,hky] at hk;cases hk
  | c=>
    obtain ⟨L,rfl,h1,h1e⟩:=opF_c hkx hx
    cases hky:y.kind cq with
    | q0=>exact absurd hky hy0
    | q=>
      have hc:=kind_call (.inr (.inl hky))
      obtain ⟨rfl,h2,_⟩:=plain_q hky ((opF_plain hc).1 hy)
      exact ⟨σ,(opF_plain hc).2 (h2 _ (alike_freezeAll σ L).symm),hx⟩
    | c=>
      obtain ⟨L',rfl,h2,_⟩:=opF_c hky hy
      refine ⟨freezeAll σ L',h2 σ (alike_freezeAll σ L).symm,?_⟩
      have:=h1 (freezeAll σ L') (alike_freezeAll σ L')
      rw [freezeAll_comm] at this
      exact this
    | a=>
      have hc:=kind_call (.inr (.inr hky))
      obtain ⟨ext,rfl,h2⟩:=plain_a hky ((opF_plain hc).1 hy)
      exact ⟨σ++ext,(opF_plain hc).2 (h2 σ freezeAll_len.symm),h1e ext⟩
    | w=>rw [hkx,hky] at hk;cases hk
  | a=>
    cases hky:y.kind cq with
    | q0=>exact absurd hky hy0
    | _=>rw [hkx,hky] at hk;cases hk
  | w=>
    cases hky:y.kind cq with
    | q0=>exact absurd hky hy0
    | _=>rw [hkx,hky] at hk;cases hk
theorem eagers_id:∀ {cs:List AV} {σ:Store},(∀ c∈cs,c≠.nils)→eagers cs σ=(cs,σ)
  | [],σ,_=>rfl
  | c :: cs,σ,h=>by
    have ih:=eagers_id (cs:=cs) (σ:=σ) (fun x hx=>h x (by simp [hx]))
    cases c with
    | nils=>exact absurd rfl (h .nils (by simp))
    | _=>simp only [eagers,ih]
theorem cells_noNils {s:Nat} {g:Bool} {v:AV} {cs:List AV} (hn:noNils v=true) (h:cellsOf s g v=some cs):∀ c∈cs,c≠.nils:=by
  intro c hc
  unfold cellsOf at h
  split at h
  · split at h
    · split at h
      · cases h
        obtain ⟨q,_,rfl⟩:=List.mem_map.1 hc
        simp
      · cases h
    · split at h
      · cases h
        simp only [noNils,List.all_eq_true] at hn
        have:=hn c hc
        rintro rfl
        simp at this
      · cases h
    · cases h
  · split at h
    · cases h
    · cases h
    · cases h
    · cases h
    · cases h
    · cases h
      rw [List.mem_singleton] at hc
      subst hc
      rintro rfl
      simp [noNils] at hn
theorem setRow_set {σ σ':Store} {b n i o:Nat} {new:List AV} (h:setRow σ b n i o new=some σ'):∃ ob,σ'=σ.set b ob∧∀ σ2:Store,σ2[b]? = σ[b]? → setRow σ2 b n i o new=some (σ2.set b ob):=by
  unfold setRow at h
  split at h
  · rename_i es rows ho
    split at h
    · rename_i hl
      obtain ⟨r,hr,h⟩:=Option.bind_eq_some_iff.1 h
      split at h
      · rename_i ps hps
        obtain ⟨r',hr',rfl⟩:=Option.map_eq_some_iff.1 h
        exact ⟨_,rfl,fun σ2 h2=>by unfold setRow;simp only [h2,ho,hl,if_true,hr,Option.bind_some,hps,hr',Option.map_some]⟩
      · rename_i hps
        obtain ⟨r',hr',rfl⟩:=Option.map_eq_some_iff.1 h
        exact ⟨_,rfl,fun σ2 h2=>by unfold setRow;simp only [h2,ho,hl,if_true,hr,Option.bind_some,hps,hr',Option.map_some]⟩
    · cases h
  · rename_i es rows ho
    split at h
    · rename_i hl
      obtain ⟨r,hr,h⟩:=Option.bind_eq_some_iff.1 h
      obtain ⟨r',hr',rfl⟩:=Option.map_eq_some_iff.1 h
      exact ⟨_,rfl,fun σ2 h2=>by unfold setRow;simp only [h2,ho,hl,if_true,hr,Option.bind_some,hr',Option.map_some]⟩
    · cases h
  · cases h
theorem plain_blk {i:IOp} {σ σ':Store} {τ:Tm} {v:AV} {b:Nat} (hb:blkOf τ i=some b) (h:plain σ τ i.op=some (v,σ')) :
    (σ'=σ∨∃ ob,σ'=σ.set b ob)∧∀ σ2:Store,σ2[b]? = σ[b]? → plain σ2 τ i.op=some (v,σ2)∧σ'=σ∨∃ ob,σ'=σ.set b ob∧plain σ2 τ i.op=some (v,σ2.set b ob):=by
  obtain ⟨d,op,g⟩:=i
  cases op<;>simp only [blkOf,reduceCtorEq] at hb
  case store s a x=>
    split at hb
    · rename_i b' n j o ha
      split at hb
      · rename_i hn
        simp only [Option.some.injEq] at hb
        subst hb
        simp only [plain,Option.map_eq_some_iff,Prod.mk.injEq] at h
        obtain ⟨σ1,hs,rfl,rfl⟩:=h
        simp only [storeV,ha] at hs
        split at hs
        · rename_i cs hcs
          split at hs
          · rename_i hl
            have he:=fun σ:Store=>eagers_id (σ:=σ) (cells_noNils hn hcs)
            rw [he] at hs
            obtain ⟨ob,rfl,h2⟩:=setRow_set hs
            refine ⟨.inr ⟨ob,rfl⟩,fun σ2 hσ=>.inr ⟨ob,rfl,?_⟩⟩
            have e2:storeV σ2 s (a.val τ) (x.val τ)=some (σ2.set b' ob):=by
              simp only [storeV,ha,hcs,hl,if_true,he]
              exact h2 σ2 hσ
            simp only [plain,e2];rfl
          · cases hs
        · cases hs
      · cases hb
    · cases hb
  case iadrS es x y=>
    split at hb
    · rename_i b' n hx
      simp only [Option.some.injEq] at hb
      subst hb
      simp only [plain,Option.map_eq_some_iff,Prod.mk.injEq] at h
      obtain ⟨u,hu,rfl,rfl⟩:=h
      refine ⟨.inl rfl,fun σ2 hσ=>.inl ⟨?_,rfl⟩⟩
      have e2:quiet σ2 τ (.iadrS es x y)=some u:=by
        rw [← hu]
        simp only [quiet,hx,svec,hσ]
        rfl
      simp only [plain,e2];rfl
    · cases hb
theorem blk_call {τ:Tm} {i:IOp} {b:Nat} (h:blkOf τ i=some b):i.op.call? = false:=by
  obtain ⟨d,op,g⟩:=i
  cases op<;>first | rfl | (simp [blkOf] at h)
theorem pure_call {τ:Tm} {i:IOp} (h:pureRead τ i=true):i.op.call? = false:=by
  obtain ⟨d,op,g⟩:=i
  cases op<;>first | rfl | (simp [pureRead] at h)
theorem commuteD {x y:IOp} {τ:Tm} {σ σ1 σ2:Store} {vx vy:AV} (hx:OpF p cq τ σ x.op vx σ1) (hy:OpF p cq τ σ1 y.op vy σ2) (hk:apartOk τ x y=true):∃ σ1',OpF p cq τ σ y.op vy σ1'∧OpF p cq τ σ1' x.op vx σ2:=by
  unfold apartOk at hk
  simp only [Bool.or_eq_true] at hk
  rcases hk with (hk | hk) | hk
  · have hc:=pure_call hk
    obtain ⟨rfl,h⟩:=plain_pure hk ((opF_plain hc).1 hx)
    exact ⟨σ2,hy,(opF_plain hc).2 (h σ2)⟩
  · have hc:=pure_call hk
    obtain ⟨rfl,h⟩:=plain_pure hk ((opF_plain hc).1 hy)
    exact ⟨σ,(opF_plain hc).2 (h σ),hx⟩
  · split at hk
    · rename_i b b' h1 h2
      have hne:b≠b':=by simpa using hk
      have c1:=blk_call h1
      have c2:=blk_call h2
      have p1:=(opF_plain (p:=p) (cq:=cq) c1).1 hx
      have p2:=(opF_plain (p:=p) (cq:=cq) c2).1 hy
      obtain ⟨k1,k2⟩:=plain_blk h1 p1
      obtain ⟨k3,k4⟩:=plain_blk h2 p2
      have e1:σ1[b']? = σ[b']? := by
        rcases k1 with rfl | ⟨ob,rfl⟩
        · rfl
        · exact List.getElem?_set_ne hne
      rcases k4 σ e1.symm with ⟨q1,rfl⟩ | ⟨ob,rfl,q1⟩
      · exact ⟨σ,(opF_plain c2).2 q1,hx⟩
      · refine ⟨σ.set b' ob,(opF_plain c2).2 q1,(opF_plain c1).2 ?_⟩
        have e2:(σ.set b' ob)[b]? = σ[b]? := List.getElem?_set_ne (fun h=>hne h.symm)
        rcases k2 _ e2 with ⟨q2,rfl⟩ | ⟨ob2,rfl,q2⟩
        · exact q2
        · rw [q2,List.set_comm _ _ hne]
    · cases hk
section
variable {τ τ':Tm}
theorem val_congr {x:O} (h:∀ t∈x.reads,τ.get t=τ'.get t):x.val τ=x.val τ':=by
  cases x with
  | t n=>exact h n (by simp [O.reads])
  | c v=>rfl
theorem vals_congr {xs:List O} (h:∀ t∈xs.flatMap O.reads,τ.get t=τ'.get t):xs.map (·.val τ)=xs.map (·.val τ') :=
  List.map_congr_left fun x hx=>val_congr fun t ht=>h t (List.mem_flatMap.2 ⟨x,hx,ht⟩)
theorem opt_congr {x:Option O} (h:∀ t∈optReads x,τ.get t=τ'.get t):x.map (O.val τ)=x.map (O.val τ'):=by
  cases x with
  | none=>rfl
  | some x=>simp only [Option.map_some,val_congr (x:=x) h]
theorem parts_congr {β:Type} {ps:List (Nat×Nat×O)} (h:∀ t∈ps.flatMap fun x=>x.2.2.reads,τ.get t=τ'.get t) (f:Nat×Nat×O→AV→β):ps.map (fun x=>f x (x.2.2.val τ))=ps.map (fun x=>f x (x.2.2.val τ')) :=
  List.map_congr_left fun x hx=>by rw [val_congr fun t ht=>h t (List.mem_flatMap.2 ⟨x,hx,ht⟩)]
theorem opF_congr {σ σ':Store} {op:XOp} {v:AV} (h:∀ t∈op.reads,τ.get t=τ'.get t) (hf:OpF p cq τ σ op v σ'):OpF p cq τ' σ op v σ':=by
  cases op
  case callf f as=>
    have e:=vals_congr (xs:=as) h
    have hf':CallFact p cq f (as.map (·.val τ)) σ v σ':=hf
    rw [e] at hf'
    exact hf'
  case calli f as=>
    have e:=vals_congr (xs:=as) h
    have hf':CallFOk p cq f (as.map (·.val τ)) σ v σ':=hf
    rw [e] at hf'
    exact hf'
  case callv x as=>
    have e1:=val_congr (x:=x) fun t ht=>h t (List.mem_append_left _ ht)
    have e2:=vals_congr (xs:=as) fun t ht=>h t (List.mem_append_right _ ht)
    have hf':CallVOk p cq (x.val τ) (as.map (·.val τ)) σ v σ':=hf
    rw [e1,e2] at hf'
    exact hf'
  all_goals
    rw [opF_plain rfl] at hf ⊢
    rw [← hf]
    first
      | rfl
      | (rename_i x;simp only [plain,quiet,val_congr (x:=x) h];done)
      | (rename_i x _;simp only [plain,quiet,val_congr (x:=x) h];done)
      | (rename_i x _ _;simp only [plain,quiet,val_congr (x:=x) h];done)
      | (rename_i x y;simp only [plain,quiet,val_congr (x:=x) (fun t ht=>h t (List.mem_append_left _ ht)),val_congr (x:=y) (fun t ht=>h t (List.mem_append_right _ ht))];done)
      | (rename_i x y _;simp only [plain,quiet,val_congr (x:=x) (fun t ht=>h t (List.mem_append_left _ ht)),val_congr (x:=y) (fun t ht=>h t (List.mem_append_right _ ht))];done)
      | (rename_i x y z;simp only [plain,quiet,val_congr (x:=x) (fun t ht=>h t (List.mem_append_left _ (List.mem_append_left _ ht))),val_congr (x:=y) (fun t ht=>h t (List.mem_append_left _ (List.mem_append_right _ ht))),val_congr (x:=z) (fun t ht=>h t (List.mem_append_right _ ht))];done)
      | (rename_i x lo hi;simp only [plain,quiet,val_congr (x:=x) (fun t ht=>h t (List.mem_append_left _ (List.mem_append_left _ ht))),opt_congr (x:=lo) (fun t ht=>h t (List.mem_append_left _ (List.mem_append_right _ ht))),opt_congr (x:=hi) (fun t ht=>h t (List.mem_append_right _ ht))];done)
      | (rename_i x lo hi mx;simp only [plain,quiet,val_congr (x:=x) (fun t ht=>h t (List.mem_append_left _ (List.mem_append_left _ (List.mem_append_left _ ht)))),opt_congr (x:=lo) (fun t ht=>h t (List.mem_append_left _ (List.mem_append_left _ (List.mem_append_right _ ht)))),opt_congr (x:=hi) (fun t ht=>h t (List.mem_append_left _ (List.mem_append_right _ ht))),opt_congr (x:=mx) (fun t ht=>h t (List.mem_append_right _ ht))];done)
      | (rename_i xs;simp only [plain,quiet];rw [← vals_congr (xs:=xs) h];done)
      | (rename_i xs;simp only [plain,quiet];rw [show xs.map (O.val τ')=xs.map (O.val τ) from (vals_congr (xs:=xs) h).symm];done)
      | (rename_i ps;simp only [plain,quiet];rw [← parts_congr (ps:=ps) h (fun x v=>(x.1,x.2.1,v))];done)
      | (rename_i es z n ps;simp only [plain];rw [← parts_congr (ps:=ps) h (fun x v=>(x.1*es,x.2.1,v))];done)
end
def updO (τ:Tm) (d:Option Nat) (v:AV):Tm :=
  match d with
  | none=>τ
  | some d=>upd τ d v
theorem put_iff {st st':St} {d:Option Nat} {v:AV}:st.put d v=some st'↔(∀ k,d=some k→k<st.nt)∧st'={ st with τ:=updO st.τ d v }:=by
  cases d with
  | none=>
    simp only [St.put,updO,Option.some.injEq,reduceCtorEq,false_implies,implies_true,true_and]
    exact ⟨fun h=>h.symm,fun h=>h.symm⟩
  | some d=>
    simp only [St.put,updO,Option.some.injEq,forall_eq']
    split
    · rename_i h;simp [h,eq_comm]
    · rename_i h;simp [h]
theorem updO_comm {τ:Tm} {d d':Option Nat} {v v':AV} (h:∀ k,d'=some k→d≠some k):updO (updO τ d v) d' v'=updO (updO τ d' v') d v:=by
  cases d with
  | none=>rfl
  | some a=>
    cases d' with
    | none=>rfl
    | some b=>
      have hne:a≠b:=fun hx=>h b rfl (by rw [hx])
      simp only [updO,upd]
      congr 1
      funext t
      by_cases h1:a=t<;>by_cases h2:b=t<;>simp [h1,h2]
      exact absurd (h1.trans h2.symm) hne
theorem updO_get {τ:Tm} {d:Option Nat} {v:AV} {t:Nat} (h:∀ k,d=some k→k≠t):(updO τ d v).get t=τ.get t:=by
  cases d with
  | none=>rfl
  | some d=>simp [updO,upd,h d rfl]
theorem wanted_congr {τ τ':Tm} {g:Option (Nat×Bool)} (h:∀ t w,g=some (t,w)→τ.get t=τ'.get t):wantedOp τ g=wantedOp τ' g:=by
  cases g with
  | none=>rfl
  | some tw=>simp only [wantedOp,h tw.1 tw.2 rfl]
def Does (p:Program) (cq:FuncId→Bool) (τ:Tm) (σ:Store) (i:IOp) (v:AV) (σ':Store):Prop :=
  (wantedOp τ i.guard=some true∧OpF p cq τ σ i.op v σ')∨(wantedOp τ i.guard=some false∧v=.p (.tup [])∧σ'=σ)
theorem stepFact_iff {i:IOp} {st st':St}:StepFact p cq i st st'↔∃ v σ',Does p cq st.τ st.σ i v σ'∧(∀ k,i.dst=some k→k<st.nt)∧st'={ st with τ:=updO st.τ i.dst v,σ:=σ' }:=by
  constructor
  · rintro ⟨w,hw,⟨rfl,v,σ',hf,hp⟩ | ⟨rfl,hp⟩⟩
    · obtain ⟨h1,h2⟩:=put_iff.1 hp
      exact ⟨v,σ',.inl ⟨hw,hf⟩,h1,h2⟩
    · obtain ⟨h1,h2⟩:=put_iff.1 hp
      exact ⟨_,st.σ,.inr ⟨hw,rfl,rfl⟩,h1,h2⟩
  · rintro ⟨v,σ',⟨hw,hf⟩ | ⟨hw,rfl,rfl⟩,h1,h2⟩
    · exact ⟨true,hw,.inl ⟨rfl,v,σ',hf,put_iff.2 ⟨h1,h2⟩⟩⟩
    · exact ⟨false,hw,.inr ⟨rfl,put_iff.2 ⟨h1,h2⟩⟩⟩
theorem does_congr {τ τ':Tm} {σ σ':Store} {i:IOp} {v:AV} (h:∀ t∈i.looks,τ.get t=τ'.get t) (hd:Does p cq τ σ i v σ'):Does p cq τ' σ i v σ':=by
  have hg:wantedOp τ i.guard=wantedOp τ' i.guard:=wanted_congr fun t w hgw=>h t (by simp [IOp.looks,hgw])
  rcases hd with ⟨hw,hf⟩ | ⟨hw,h1,h2⟩
  · exact .inl ⟨by rw [← hg];exact hw,opF_congr (fun t ht=>h t (by simp [IOp.looks,ht])) hf⟩
  · exact .inr ⟨by rw [← hg];exact hw,h1,h2⟩
theorem does_commute {x y:IOp} {τ:Tm} {σ σ1 σ2:Store} {vx vy:AV} (hx:Does p cq τ σ x vx σ1) (hy:Does p cq τ σ1 y vy σ2) (hk:kindsOk (x.op.kind cq) (y.op.kind cq)=true):∃ σ1',Does p cq τ σ y vy σ1'∧Does p cq τ σ1' x vx σ2:=by
  rcases hx with ⟨wx,fx⟩ | ⟨wx,rfl,rfl⟩
  · rcases hy with ⟨wy,fy⟩ | ⟨wy,rfl,rfl⟩
    · obtain ⟨σ1',h1,h2⟩:=commute fx fy hk
      exact ⟨σ1',.inl ⟨wy,h1⟩,.inl ⟨wx,h2⟩⟩
    · exact ⟨σ,.inr ⟨wy,rfl,rfl⟩,.inl ⟨wx,fx⟩⟩
  · exact ⟨σ2,hy,.inr ⟨wx,rfl,rfl⟩⟩
theorem swap {x y:IOp} {st s1 s2:St} (hx:StepFact p cq x st s1) (hy:StepFact p cq y s1 s2) (hi:indep cq x y=true):∃ s1',StepFact p cq y st s1'∧StepFact p cq x s1' s2:=by
  simp only [indep,Bool.and_eq_true] at hi
  obtain ⟨⟨i1,i2⟩,i3⟩:=hi
  have d1:∀ k,x.dst=some k→k∉y.looks:=fun k hk=>by rw [hk] at i1;simpa using i1
  have d2:∀ k,y.dst=some k→k∉x.looks∧x.dst≠some k:=fun k hk=>by rw [hk] at i2;simpa using i2
  obtain ⟨vx,σ1,gx,bx,rfl⟩:=stepFact_iff.1 hx
  obtain ⟨vy,σ2,gy,by',rfl⟩:=stepFact_iff.1 hy
  have hy':Does p cq st.τ σ1 y vy σ2:=does_congr (fun t ht=>updO_get fun k hk hx=>d1 k hk (hx ▸ ht)) gy
  obtain ⟨σ1',h1,h2⟩:=does_commute gx hy' i3
  refine ⟨_,stepFact_iff.2 ⟨vy,σ1',h1,by',rfl⟩,stepFact_iff.2 ⟨vx,σ2,?_,bx,?_⟩⟩
  · exact does_congr (fun t ht=>(updO_get fun k hk hx=>(d2 k hk).1 (hx ▸ ht)).symm) h2
  · simp only [updO_comm (fun k hk=>(d2 k hk).2)]
theorem does_commuteD {x y:IOp} {τ:Tm} {σ σ1 σ2:Store} {vx vy:AV} (hx:Does p cq τ σ x vx σ1) (hy:Does p cq τ σ1 y vy σ2) (hk:apartOk τ x y=true):∃ σ1',Does p cq τ σ y vy σ1'∧Does p cq τ σ1' x vx σ2:=by
  rcases hx with ⟨wx,fx⟩ | ⟨wx,rfl,rfl⟩
  · rcases hy with ⟨wy,fy⟩ | ⟨wy,rfl,rfl⟩
    · obtain ⟨σ1',h1,h2⟩:=commuteD fx fy hk
      exact ⟨σ1',.inl ⟨wy,h1⟩,.inl ⟨wx,h2⟩⟩
    · exact ⟨σ,.inr ⟨wy,rfl,rfl⟩,.inl ⟨wx,fx⟩⟩
  · exact ⟨σ2,hy,.inr ⟨wx,rfl,rfl⟩⟩
theorem swapD {x y:IOp} {st s1 s2:St} (hx:StepFact p cq x st s1) (hy:StepFact p cq y s1 s2) (hi:indepD x y=true) (hk:apartOk st.τ x y=true):∃ s1',StepFact p cq y st s1'∧StepFact p cq x s1' s2:=by
  simp only [indepD,Bool.and_eq_true] at hi
  obtain ⟨i1,i2⟩:=hi
  have d1:∀ k,x.dst=some k→k∉y.looks:=fun k hk=>by rw [hk] at i1;simpa using i1
  have d2:∀ k,y.dst=some k→k∉x.looks∧x.dst≠some k:=fun k hk=>by rw [hk] at i2;simpa using i2
  obtain ⟨vx,σ1,gx,bx,rfl⟩:=stepFact_iff.1 hx
  obtain ⟨vy,σ2,gy,by',rfl⟩:=stepFact_iff.1 hy
  have hy':Does p cq st.τ σ1 y vy σ2:=does_congr (fun t ht=>updO_get fun k hk hx=>d1 k hk (hx ▸ ht)) gy
  obtain ⟨σ1',h1,h2⟩:=does_commuteD gx hy' hk
  refine ⟨_,stepFact_iff.2 ⟨vy,σ1',h1,by',rfl⟩,stepFact_iff.2 ⟨vx,σ2,?_,bx,?_⟩⟩
  · exact does_congr (fun t ht=>(updO_get fun k hk hx=>(d2 k hk).1 (hx ▸ ht)).symm) h2
  · simp only [updO_comm (fun k hk=>(d2 k hk).2)]
theorem pureRead_congr {τ τ':Tm} {o:IOp} (h:∀ t∈o.looks,τ.get t=τ'.get t):pureRead τ o=pureRead τ' o:=by
  obtain ⟨d,op,g⟩:=o
  have v:∀ x:O,(∀ t∈x.reads,t∈op.reads)→x.val τ=x.val τ':=fun x hx=>val_congr fun t ht=>h t (by simp [IOp.looks,hx t ht])
  cases op
  case load s g' x=>simp only [pureRead,v x (fun t ht=>ht)]
  case iadrS es x i=>simp only [pureRead,v x (fun t ht=>List.mem_append_left _ ht)]
  case lenS x=>simp only [pureRead,v x (fun t ht=>ht)]
  case lenM x=>simp only [pureRead,v x (fun t ht=>ht)]
  case b2s x=>simp only [pureRead,v x (fun t ht=>ht)]
  case lookup kl z x k ok=>simp only [pureRead,v x (fun t ht=>List.mem_append_left _ ht)]
  case slcS es x lo hi mx=>simp only [pureRead,v x (fun t ht=>List.mem_append_left _ (List.mem_append_left _ (List.mem_append_left _ ht)))]
  all_goals rfl
theorem blkOf_congr {τ τ':Tm} {o:IOp} (h:∀ t∈o.looks,τ.get t=τ'.get t):blkOf τ o=blkOf τ' o:=by
  obtain ⟨d,op,g⟩:=o
  have v:∀ x:O,(∀ t∈x.reads,t∈op.reads)→x.val τ=x.val τ':=fun x hx=>val_congr fun t ht=>h t (by simp [IOp.looks,hx t ht])
  cases op
  case store s a x=>simp only [blkOf,v a (fun t ht=>List.mem_append_left _ ht),v x (fun t ht=>List.mem_append_right _ ht)]
  case iadrS es x i=>simp only [blkOf,v x (fun t ht=>List.mem_append_left _ ht)]
  all_goals rfl
theorem apartOk_congr {τ τ':Tm} {x y:IOp} (hx:∀ t∈x.looks,τ.get t=τ'.get t) (hy:∀ t∈y.looks,τ.get t=τ'.get t):apartOk τ x y=apartOk τ' x y:=by
  unfold apartOk
  rw [pureRead_congr hx,pureRead_congr hy,blkOf_congr hx,blkOf_congr hy]
theorem runs_get {t:Nat}:∀ {l:List IOp} {st st':St},Runs p cq l st st'→(∀ z∈l,∀ d,z.dst=some d→d≠t)→st.τ.get t=st'.τ.get t
  | [],st,st',h,_=>by cases h;rfl
  | z :: l,st,st',h,hd=>by
    cases h with
    | cons _ _ _ s1 _ hf hr=>
      rw [← runs_get hr fun x hx=>hd x (by simp [hx])]
      obtain ⟨v,σ',_,_,rfl⟩:=stepFact_iff.1 hf
      exact (updO_get fun k hk=>hd z (by simp) k hk).symm
inductive Ssa (cq:FuncId→Bool):List IOp→Prop
  | nil:Ssa cq []
  | cons (x:IOp) (l:List IOp) (h:x.op.kind cq≠.q0→∀ z∈x :: l,∀ d,z.dst=some d→d∉x.looks) (hl:Ssa cq l):Ssa cq (x :: l)
theorem Ssa.sub {l m:List IOp} (h:Ssa cq m) (hs:List.Sublist l m):Ssa cq l:=by
  induction hs with
  | slnil=>exact .nil
  | cons a _ ih=>cases h with | cons _ _ _ hl=>exact ih hl
  | cons_cons a hs ih=>cases h with | cons _ _ h hl=>exact .cons _ _ (fun hk z hz=>h hk z (by rcases List.mem_cons.1 hz with rfl | hz;simp;exact List.mem_cons_of_mem _ (hs.subset hz))) (ih hl)
theorem front {y:IOp} {τf:Tm}:∀ {pre post:List IOp} {st st':St},Runs p cq (pre++y :: post) st st'→st'.τ=τf→(∀ x∈pre,indep cq x y=true∨(Ssa cq (pre++y :: post)∧indepD x y=true∧apartOk τf x y=true))→∃ s1,StepFact p cq y st s1∧Runs p cq (pre++post) s1 st'
  | [],post,st,st',h,_,_=>by
    cases h with
    | cons _ _ _ s1 _ hf hr=>exact ⟨s1,hf,hr⟩
  | x :: pre,post,st,st',h,hτ,hi=>by
    have h0:=h
    cases h with
    | cons _ _ _ s1 _ hf hr=>
      obtain ⟨s2,h1,h2⟩:=front hr hτ (fun z hz=>(hi z (by simp [hz])).imp id fun ⟨a,b,c⟩=>⟨by cases a with | cons _ _ _ hl=>exact hl,b,c⟩)
      by_cases hin:indep cq x y=true
      · obtain ⟨s1',h3,h4⟩:=swap hf h1 hin
        exact ⟨s1',h3,.cons _ _ _ s2 _ h4 h2⟩
      rcases hi x (by simp) with hx | ⟨hs,hx,ha⟩
      · exact absurd hx hin
      · have hkinds:kindsOk (x.op.kind cq) (y.op.kind cq)=false:=by
          have e:indep cq x y=(indepD x y && kindsOk (x.op.kind cq) (y.op.kind cq)):=rfl
          rw [e,hx,Bool.true_and] at hin
          simpa using hin
        have hkx:x.op.kind cq≠.q0:=fun e=>by rw [e] at hkinds;cases hkinds
        have hky:y.op.kind cq≠.q0:=fun e=>by rw [e] at hkinds;cases h:x.op.kind cq<;>rw [h] at hkinds<;>cases hkinds
        have hxl:∀ t∈x.looks,st.τ.get t=st'.τ.get t:=fun t ht=>runs_get h0 fun z hz d hd he=>by
          cases hs with
          | cons _ _ h _=>exact h hkx z hz d hd (he ▸ ht)
        have hyl:∀ t∈y.looks,s1.τ.get t=st'.τ.get t:=by
          intro t ht
          have e1:s1.τ.get t=s2.τ.get t:=by
            obtain ⟨v,σ',_,_,rfl⟩:=stepFact_iff.1 h1
            refine (updO_get fun k hk he=>?_).symm
            have:∀ (l:List IOp),Ssa cq (l++y :: post)→∀ d,y.dst=some d→d∉y.looks:=by
              intro l
              induction l with
              | nil=>intro hs d hd;cases hs with | cons _ _ h _=>exact h hky y (by simp) d hd
              | cons a l ih=>intro hs;cases hs with | cons _ _ _ hl=>exact ih hl
            exact this (x :: pre) hs k hk (he ▸ ht)
          rw [e1]
          refine runs_get h2 fun z hz d hd he=>?_
          rcases List.mem_append.1 hz with hz | hz
          · have hzi:∀ k,z.dst=some k→k∉y.looks:=by
              rcases hi z (by simp [hz]) with h | ⟨_,h,_⟩
              · simp only [indep,Bool.and_eq_true] at h
                intro k hk
                have:=h.1.1
                rw [hk] at this
                simpa using this
              · simp only [indepD,Bool.and_eq_true] at h
                intro k hk
                have:=h.1
                rw [hk] at this
                simpa using this
            exact hzi d hd (he ▸ ht)
          · have:∀ (l:List IOp),Ssa cq (l++y :: post)→∀ z∈post,∀ d,z.dst=some d→d∉y.looks:=by
              intro l
              induction l with
              | nil=>intro hs z hz d hd;cases hs with | cons _ _ h _=>exact h hky z (by simp [hz]) d hd
              | cons a l ih=>intro hs;cases hs with | cons _ _ _ hl=>exact ih hl
            exact this (x :: pre) hs z hz d hd (he ▸ ht)
        have hx1:∀ t∈y.looks,st.τ.get t=s1.τ.get t:=by
          intro t ht
          obtain ⟨v,σ',_,_,rfl⟩:=stepFact_iff.1 hf
          refine (updO_get fun k hk he=>?_).symm
          simp only [indepD,Bool.and_eq_true] at hx
          have:=hx.1
          rw [hk] at this
          have:k∉y.looks:=by simpa using this
          exact this (he ▸ ht)
        have hap:apartOk st.τ x y=true:=by
          rw [apartOk_congr (τ':=τf) (fun t ht=>by rw [hxl t ht,hτ]) (fun t ht=>by rw [hx1 t ht,hyl t ht,hτ])]
          exact ha
        obtain ⟨s1',h3,h4⟩:=swapD hf h1 hx hap
        exact ⟨s1',h3,.cons _ _ _ s2 _ h4 h2⟩
theorem befores_prefix:∀ (ops:List Oper) (acc:List (List Nat)) (i:Nat),i<acc.length→(befores ops acc)[i]? = acc[i]?
  | [],acc,i,_=>rfl
  | o :: r,acc,i,h=>by
    rw [befores,befores_prefix r _ i (by simp;omega),List.getElem?_append_left h]
theorem befores_at:∀ (ops:List Oper) (acc:List (List Nat)) (j:Nat) (o:Oper),ops[j]? = some o→(∀ e∈o.after,Region.binds .any e=true→e.on<acc.length+j) →
    ∀ x∈(befores ops acc).getD (acc.length+j) [],(∃ e∈o.after,Region.binds .any e=true∧e.on=x)∨∃ e∈o.after,Region.binds .any e=true∧x∈(befores ops acc).getD e.on []
  | [],acc,j,o,h,_=>by simp at h
  | o0 :: r,acc,0,o,h,hlt=>by
    intro x hx
    simp only [List.getElem?_cons_zero,Option.some.injEq] at h
    subst h
    have hb:∀ i,i<acc.length→(befores (o0 :: r) acc).getD i []=acc.getD i []:=fun i hi=>by
      simp only [List.getD_eq_getElem?_getD,befores_prefix (o0 :: r) acc i hi]
    have h0:(befores (o0 :: r) acc)[acc.length]? = some ((o0.after.toList.filterMap fun e=>if Region.binds .any e then some e.on else none)++(o0.after.toList.filterMap fun e=>if Region.binds .any e then some e.on else none).flatMap fun j=>acc.getD j []).eraseDups:=by
      rw [befores,befores_prefix r _ acc.length (by simp)]
      simp
    simp only [Nat.add_zero,List.getD_eq_getElem?_getD,h0,Option.getD_some] at hx
    rw [List.mem_eraseDups,List.mem_append] at hx
    have dm:∀ y,y∈(o0.after.toList.filterMap fun e=>if Region.binds .any e then some e.on else none)→∃ e∈o0.after,Region.binds .any e=true∧e.on=y:=by
      intro y hy
      rw [List.mem_filterMap] at hy
      obtain ⟨e,he,hy⟩:=hy
      split at hy
      · rename_i hbd
        simp only [Option.some.injEq] at hy
        exact ⟨e,by simpa using he,hbd,hy⟩
      · cases hy
    rcases hx with hx | hx
    · exact .inl (dm x hx)
    · rw [List.mem_flatMap] at hx
      obtain ⟨j,hj,hx⟩:=hx
      obtain ⟨e,he,hbd,rfl⟩:=dm j hj
      refine .inr ⟨e,he,hbd,?_⟩
      rw [hb _ (by simpa using hlt e he hbd)]
      simpa [List.getD_eq_getElem?_getD] using hx
  | o0 :: r,acc,j+1,o,h,hlt=>by
    intro x hx
    rw [befores] at hx ⊢
    refine befores_at r _ j o (by simpa using h) (fun e he hb=>?_) x ?_
    · have:=hlt e he hb
      simp
      omega
    · rw [List.length_append,List.length_singleton,show acc.length+1+j=acc.length+(j+1) by omega]
      exact hx
def rem (n:Nat) (listed:Array Bool):List Nat:=(List.range n).filter fun i=>!listed.getD i true
theorem mem_rem {n i:Nat} {listed:Array Bool}:i∈rem n listed↔i<n∧listed.getD i true=false:=by
  simp [rem,List.mem_filter,List.mem_range]
theorem rem_split {n i:Nat} {listed:Array Bool} (hsz:listed.size=n) (hi:i∈rem n listed):∃ pre post,rem n listed=pre++i :: post∧rem n (listed.setIfInBounds i true)=pre++post∧∀ x∈pre,x<i:=by
  obtain ⟨h1,h2⟩:=mem_rem.1 hi
  have hr:List.range n=List.range i++i :: List.range' (i+1) (n-i-1):=by
    obtain ⟨m,rfl⟩:∃ m,n=i+(m+1):=⟨n-i-1,by omega⟩
    rw [List.range_eq_range',List.range_eq_range',← List.range'_append_1,Nat.zero_add,List.range'_succ,show i+(m+1)-i-1=m by omega]
  have other:∀ x,x≠i→(listed.setIfInBounds i true).getD x true=listed.getD x true:=fun x hx=>getD_set_ne true (fun h=>hx h.symm)
  refine ⟨(List.range i).filter fun x=>!listed.getD x true,(List.range' (i+1) (n-i-1)).filter fun x=>!listed.getD x true,?_,?_,?_⟩
  · unfold rem
    rw [hr,List.filter_append,List.filter_cons,h2]
    simp
  · unfold rem
    rw [hr,List.filter_append,List.filter_cons]
    have hself:(listed.setIfInBounds i true).getD i true=true:=by
      have:i<listed.size:=by omega
      simp [Array.getD,this]
    rw [hself]
    simp only [Bool.not_true,Bool.false_eq_true,if_false]
    congr 1
    · exact List.filter_congr fun x hx=>by rw [other x (by rw [List.mem_range] at hx;omega)]
    · exact List.filter_congr fun x hx=>by rw [other x (by rw [List.mem_range'_1] at hx;omega)]
  · intro x hx
    rw [List.mem_filter,List.mem_range] at hx
    exact hx.1
theorem range_get:∀ l:List IOp,(List.range l.length).filterMap (l[·]?)=l
  | []=>rfl
  | a :: l=>by
    rw [List.length_cons,List.range_succ_eq_map,List.filterMap_cons]
    simp only [List.getElem?_cons_zero,List.filterMap_map]
    congr 1
    exact range_get l
theorem sub_range (is:List IOp) (r:List Nat) (h:List.Sublist r (List.range is.length)):List.Sublist (r.filterMap (is[·]?)) is:=by
  have:=h.filterMap (is[·]?)
  rwa [range_get] at this
theorem rem_sub {is:List IOp} {n:Nat} {listed:Array Bool} (h:is.length=n):List.Sublist (rem n listed) (List.range is.length):=by
  unfold rem
  rw [h]
  exact List.filter_sublist
theorem drawn_all {τf:Tm} {ops:Array Oper} {is:List IOp} (hl:is.length=ops.size) (hi:∀ (j:Nat) (o:Oper) (i:IOp),ops[j]? = some o→is[j]? = some i→IOk p ops o i)
    (H1:∀ (j:Nat) (o:Oper),ops[j]? = some o→∀ e∈o.after,Region.binds .any e=true→e.on<j) (H2:∀ (i j:Nat) (x y:IOp),is[i]? = some x→is[j]? = some y→i<j→i∈(befores ops.toList []).getD j []∨indep cq x y=true∨(Ssa cq is∧indepD x y=true∧apartOk τf x y=true))
    {st':St} (hτ:st'.τ=τf) {base:Nat} {F:Fence} {Q:Exit→Act→World→Prop}:∀ (fuel:Nat) (listed:Array Bool) (st:St) (own:List Loc) (ok:Nat→Prop) (w:World) (a:Act),listed.size=ops.size→(∀ j,listed.getD j false=true→∀ x∈(befores ops.toList []).getD j [],listed.getD x false=true) →
      (rem ops.size listed).length≤fuel→Runs p cq ((rem ops.size listed).filterMap (is[·]?)) st st'→Now p cq ⟨own,st.σ,ok,w⟩ st base F a →
      (∀ (own':List Loc) (ok':Nat→Prop) (w':World) (a':Act),Now p cq ⟨own',st'.σ,ok',w'⟩ st' base F a'→Step ⟨own,st.σ,ok,w⟩ ⟨own',st'.σ,ok',w'⟩→Q .normal a' w')→wpAnyIn F 0 p .any ops Q fuel listed a w:=by
  have fin:∀ (listed:Array Bool) (st:St) (own:List Loc) (ok:Nat→Prop) (w:World) (a:Act),Region.ready .any ops listed=[]→listed.size=ops.size→Runs p cq ((rem ops.size listed).filterMap (is[·]?)) st st'→Now p cq ⟨own,st.σ,ok,w⟩ st base F a →
      (∀ (own':List Loc) (ok':Nat→Prop) (w':World) (a':Act),Now p cq ⟨own',st'.σ,ok',w'⟩ st' base F a'→Step ⟨own,st.σ,ok,w⟩ ⟨own',st'.σ,ok',w'⟩→Q .normal a' w')→Q .normal a w:=by
    intro listed st own ok w a hr hsz hR hN hQ
    have hnil:rem ops.size listed=[]:=by
      cases hrem:rem ops.size listed with
      | nil=>rfl
      | cons i0 r=>
        exfalso
        obtain ⟨i,hmem,hmin⟩:∃ i,i∈rem ops.size listed∧∀ x∈rem ops.size listed,i≤x:=by
          have:=least (P:=fun i=>i∈rem ops.size listed) ⟨i0,by rw [hrem];simp⟩
          exact this
        obtain ⟨h1,h2⟩:=mem_rem.1 hmem
        have hready:i∈Region.ready .any ops listed:=by
          rw [mem_ready]
          refine ⟨h2,ops[i],by simp [h1],fun e he hb=>?_⟩
          have hlt:=H1 i ops[i] (by simp [h1]) e he hb
          cases hg:listed.getD e.on false with
          | true=>rfl
          | false=>
            have hsz':e.on<listed.size:=by omega
            have:e.on∈rem ops.size listed:=mem_rem.2 ⟨by omega,by simp [Array.getD,hsz'] at hg ⊢;exact hg⟩
            have:=hmin _ this
            omega
        rw [hr] at hready
        cases hready
    rw [hnil] at hR
    cases hR
    exact hQ own ok w a hN (Step.refl _)
  intro fuel
  induction fuel with
  | zero=>
    intro listed st own ok w a hsz hcl hlen hR hN hQ
    have hnil:rem ops.size listed=[]:=List.length_eq_zero_iff.1 (by omega)
    have hready:Region.ready .any ops listed=[]:=by
      cases hr:Region.ready .any ops listed with
      | nil=>rfl
      | cons i r=>
        exfalso
        have hm:i∈Region.ready .any ops listed:=by rw [hr];simp
        rw [mem_ready] at hm
        obtain ⟨h0,o,ho,_⟩:=hm
        have:i∈rem ops.size listed:=mem_rem.2 ⟨(Array.getElem?_eq_some_iff.1 ho).1,h0⟩
        rw [hnil] at this
        cases this
    exact ⟨hready,fin listed st own ok w a hready hsz hR hN hQ⟩
  | succ fuel ih=>
    intro listed st own ok w a hsz hcl hlen hR hN hQ
    refine ⟨fun hr=>fin listed st own ok w a hr hsz hR hN hQ,fun i hready=>?_⟩
    rw [mem_ready] at hready
    obtain ⟨h0,o,ho,hall⟩:=hready
    have hin:i<ops.size:=(Array.getElem?_eq_some_iff.1 ho).1
    have hmem:i∈rem ops.size listed:=mem_rem.2 ⟨hin,h0⟩
    obtain ⟨pre,post,e1,e2,e3⟩:=rem_split hsz hmem
    have hil:i<is.length:=by omega
    have hb:∀ x∈(befores ops.toList []).getD i [],listed.getD x false=true:=by
      intro x hx
      have:=befores_at ops.toList [] i o (by simpa using ho) (fun e he hb=>by simpa using H1 i o ho e he hb) x (by simpa using hx)
      rcases this with ⟨e,he,hbd,rfl⟩ | ⟨e,he,hbd,hx⟩
      · exact hall e he hbd
      · exact hcl e.on (hall e he hbd) x hx
    rw [e1,List.filterMap_append,List.filterMap_cons] at hR
    simp only [List.getElem?_eq_getElem hil] at hR
    have hsub:List.Sublist (pre.filterMap (is[·]?)++is[i] :: post.filterMap (is[·]?)) is:=by
      have:=sub_range is (rem ops.size listed) (rem_sub hl)
      rw [e1,List.filterMap_append,List.filterMap_cons] at this
      simp only [List.getElem?_eq_getElem hil] at this
      exact this
    obtain ⟨s1,hf,hR'⟩:=front hR hτ (fun x hx=>by
      rw [List.mem_filterMap] at hx
      obtain ⟨j,hj,hx⟩:=hx
      rcases H2 j i x is[i] hx (List.getElem?_eq_getElem hil) (e3 j hj) with h | h
      · have h1:=hb j h
        have h2:listed.getD j true=false:=(mem_rem.1 (by rw [e1];simp [hj]:j∈rem ops.size listed)).2
        have hjs:j<listed.size:=by have:=e3 j hj;omega
        simp [Array.getD,hjs] at h1 h2
        rw [h1] at h2
        cases h2
      · exact h.imp id fun ⟨a,b,c⟩=>⟨a.sub hsub,b,c⟩)
    refine step_ok ho (hi i o is[i] ho (List.getElem?_eq_getElem hil)) hf hN (fun own1 ok1 w1 a1 hN1 st1=>?_)
    refine ih (listed.setIfInBounds i true) s1 own1 ok1 w1 a1 (by simpa using hsz) (fun j hj x hx=>?_) ?_ ?_ hN1 (fun own2 ok2 w2 a2 hN2 s2=>hQ own2 ok2 w2 a2 hN2 (st1.trans s2))
    · by_cases hji:j=i
      · subst hji
        exact getD_set_true (hb x hx)
      · rw [getD_set_ne false (fun h=>hji h.symm)] at hj
        exact getD_set_true (hcl j hj x hx)
    · rw [e2]
      rw [e1] at hlen
      simp at hlen ⊢
      omega
    · rw [e2,List.filterMap_append]
      exact hR'
theorem drawn_ok (hm:p.follows .mixedOrders=true):DrawnOk p cq:=by
  intro id ops is hl hi st st' hd hR own ok w a base F hN Q hQ
  have edges:∀ (h:(ops.toList.zipIdx.all fun (o,i)=>o.after.all fun e=>!Region.binds .any e || e.on<i)=true) (j:Nat) (o:Oper),ops[j]? = some o→∀ e∈o.after,Region.binds .any e=true→e.on<j:=by
    intro h j o ho e he hb
    rw [List.all_eq_true] at h
    have h1:=h (o,j) (by rw [List.mem_zipIdx_iff_getElem?];simpa using ho)
    simp only [Array.all_eq_true_iff_forall_mem] at h1
    have h2:=h1 e he
    simpa [hb] using h2
  have H1:∀ (j:Nat) (o:Oper),ops[j]? = some o→∀ e∈o.after,Region.binds .any e=true→e.on<j:=by
    rcases hd with hd | ⟨prs,hd,_⟩
    · unfold drawOk at hd
      simp only [Bool.and_eq_true] at hd
      exact edges hd.1
    · unfold drawDyn at hd
      simp only [Bool.and_eq_true] at hd
      exact edges hd.1.1
  have H2:∀ (i j:Nat) (x y:IOp),is[i]? = some x→is[j]? = some y→i<j→i∈(befores ops.toList []).getD j []∨indep cq x y=true∨(Ssa cq is∧indepD x y=true∧apartOk st'.τ x y=true):=by
    intro i j x y hx hy hij
    have mx:(x,i)∈is.zipIdx:=by rw [List.mem_zipIdx_iff_getElem?];simpa using hx
    have my:(y,j)∈is.zipIdx:=by rw [List.mem_zipIdx_iff_getElem?];simpa using hy
    rcases hd with hd | ⟨prs,hd,hro⟩
    · unfold drawOk at hd
      simp only [Bool.and_eq_true,List.all_eq_true] at hd
      have h1:=hd.2 (y,j) my (x,i) mx
      simp only [hij,decide_true,Bool.not_true,Bool.false_or,Bool.or_eq_true] at h1
      rcases h1 with h | h
      · exact .inl (by simpa using h)
      · exact .inr (.inl h)
    · unfold drawDyn at hd
      simp only [Bool.and_eq_true,List.all_eq_true] at hd
      obtain ⟨⟨_,hd2⟩,hd3⟩:=hd
      have hssa:Ssa cq is:=by
        have key:∀ (l:List IOp) (k:Nat),(∀ (a b:Nat) (x y:IOp),l[a]? = some x→l[b]? = some y→a≤b→x.op.kind cq≠.q0→∀ d,y.dst=some d→d∉x.looks)→Ssa cq l:=by
          intro l
          induction l with
          | nil=>intro _ _;exact .nil
          | cons a l ih=>
            intro k h
            refine .cons _ _ (fun hk0 z hz d hd=>?_) (ih k fun i j x y hx hy hij=>h (i+1) (j+1) x y (by simpa using hx) (by simpa using hy) (by omega))
            obtain ⟨b,hb⟩:=List.getElem?_of_mem hz
            exact h 0 b a z (by simp) hb (Nat.zero_le _) hk0 d hd
        refine key is 0 fun a b x y hx hy hab hk0 d hdd=>?_
        have h1:=hd2 (y,b) (by rw [List.mem_zipIdx_iff_getElem?];simpa using hy) (x,a) (by rw [List.mem_zipIdx_iff_getElem?];simpa using hx)
        simp only [Bool.or_eq_true,decide_eq_true_eq] at h1
        rcases h1 with (h1 | h1) | h1
        · omega
        · cases h1
        · rw [hdd] at h1;simpa using h1
      have h1:=hd3 (y,j) my (x,i) mx
      simp only [hij,decide_true,Bool.not_true,Bool.false_or,Bool.or_eq_true,Bool.and_eq_true] at h1
      rcases h1 with (h | h) | ⟨h,hm⟩
      · exact .inl (by simpa using h)
      · exact .inr (.inl h)
      · refine .inr (.inr ⟨hssa,h,?_⟩)
        unfold regOk at hro
        rw [List.all_eq_true] at hro
        have:=hro (i,j) (by simpa using hm)
        simpa only [hx,hy] using this
  have hstep:Step ⟨[],[],ok,w⟩ ⟨[],[],ok,w.drew⟩:=by
    refine ⟨⟨fun _ h=>h,fun _ _=>rfl,fun b s hs=>?_⟩,Nat.le_refl _,fun _ _ _=>rfl,fun _ h=>.inl h,?_,rfl⟩
    · simp [View.sh] at hs
    · rintro r ⟨b,l,o,h1,_⟩;simp at h1
  obtain ⟨k1,k2⟩:=hN.s.across hstep (ok2:=ok) (fun _ h=>h) (fun _ h=>.inl h) (fun b hb=>hN.s.okLt b hb)
  have hrem:rem ops.size (Array.replicate ops.size false)=List.range ops.size:=by
    unfold rem
    rw [List.filter_eq_self]
    intro x hx
    rw [List.mem_range] at hx
    simp [Array.getD,hx]
  have hfm:(List.range ops.size).filterMap (is[·]?)=is:=by
    rw [← hl]
    exact range_get is
  refine wpIn_region_any hm (drawn_all hl hi H1 H2 rfl ops.size _ st own ok w.drew a (by simp) (fun j hj=>?_) (by rw [hrem];simp) (by rw [hrem,hfm];exact hR) (hN.step k2 k1) (fun own' ok' w' a' hN' s'=>hQ own' ok' w' a' hN' (k2.trans s')))
  exfalso
  by_cases h:j<ops.size
  · simp [Array.getD,h] at hj
  · simp [Array.getD,h] at hj
end Go.AE
