import Derived.Test.YtpccheodgonkkaaGreatA3
set_option linter.unusedSimpArgs false
set_option linter.unusedVariables false
namespace Go.AE
def Zn:Obj→Obj
 |.pv es rows _=>.pv es rows false
 |.av es rows _=>.av es rows false
 |.map es _=>.map es false
 |o=>o
def frz:Obj→Obj
 |.pv es rows _=>.pv es rows true
 |.av es rows _=>.av es rows true
 |.map es _=>.map es true
 |o=>o
theorem ah7(o:Obj):Zn (frz o)=Zn o:=by cases o<;>rfl
theorem amQ(o:Obj):frz (frz o)=frz o:=by cases o<;>rfl
theorem JN(σ:ag)(b i:Nat):(dK σ b)[i]?=(σ[i]?).map fun o=>if i=b then frz o else o:=by
 unfold dK;cases ho:σ[b]? with
 |none=>
  by_cases h:i=b
  ·subst h;simp[ho]
  ·simp[h]
 |some o=>
  have hlt:=(fU.1 ho).1;by_cases h:i=b
  ·subst h
   cases o<;>simp only[frz,ho,xu,if_true]<;>first|exact aaY hlt|exact ho
  ·cases o<;>simp only[h,if_false,Option.map_id_fun',id]<;>first|exact Tz (fun hx=>h hx.symm)|rfl
theorem je:∀(L:List Nat) (σ:ag) (i:Nat),(bL σ L)[i]?=(σ[i]?).map fun o=>if i∈L then frz o else o
 | [],σ,i=>by simp[bL]
 |b::L,σ,i=>by
  rw[bL,je L,JN];cases σ[i]? with
  |none=>rfl
  |some o=>
   simp only[xu,pn,bI];by_cases h:i=b
   ·by_cases h':i∈L
    ·simp only[h,true_or,if_true]
     rw[←h,if_pos h',amQ]
    ·simp only[h,true_or,if_true]
     rw[←h,if_neg h']
   ·simp[h]
theorem Oz(σ:ag)(A B:List Nat):bL (bL σ A) B=bL (bL σ B) A:=by
 apply List.ext_getElem?;intro i;rw[je,je,je,je];cases σ[i]? with
 |none=>rfl
 |some o=>
  simp only[xu,bI];by_cases h:i∈A<;>by_cases h':i∈B<;>simp[h,h']
def Alike(σ σ':ag):Prop:=∀i:Nat,(σ[i]?).map Zn=(σ'[i]?).map Zn
theorem Alike.symm{σ σ':ag}(h:Alike σ σ'):Alike σ' σ:=fun i=>(h i).symm
theorem rN(σ:ag)(L:List Nat):Alike σ (bL σ L):=by
 intro i;rw[je];cases σ[i]? with
 |none=>rfl
 |some o=>
  simp only[xu,bI];split
  ·rw[ah7]
  ·rfl
theorem Alike.at{σ σ':ag}(h:Alike σ σ')(b:Nat):(σ[b]?=none∧σ'[b]?=none)∨(∃es rows f f',σ[b]?=some (.pv es rows f)∧σ'[b]?=some (.pv es rows f'))∨(∃es rows f f',σ[b]?=some (.av es rows f)∧σ'[b]?=some (.av es rows f')) ∨
  (∃es f f',σ[b]?=some (.map es f)∧σ'[b]?=some (.map es f'))∨∃o,σ[b]?=some o∧σ'[b]?=some o:=by
 have hb:=h b;cases h1:σ[b]? with
 |none=>
  cases h2:σ'[b]? with
  |none=>exact .inl ⟨rfl,rfl⟩
  |some o'=>rw[h1,h2]at hb;simp at hb
 |some o=>
  cases h2:σ'[b]? with
  |none=>rw[h1,h2]at hb;simp at hb
  |some o'=>
   rw[h1,h2]at hb;simp only[xu,bI]at hb;cases o<;>cases o'<;>simp only[Zn,Obj.pv.injEq,Obj.av.injEq,Obj.map.injEq,Obj.loop.injEq,reduceCtorEq,and_true]at hb
   ·obtain⟨rfl,rfl⟩:=hb;exact .inr (.inl ⟨_,_,_,_,rfl,rfl⟩)
   ·obtain⟨rfl,rfl⟩:=hb;exact .inr (.inr (.inl ⟨_,_,_,_,rfl,rfl⟩))
   ·subst hb;exact .inr (.inr (.inr (.inl ⟨_,_,_,rfl,rfl⟩)))
   ·obtain⟨rfl,rfl,rfl,rfl,rfl,rfl⟩:=hb;exact .inr (.inr (.inr (.inr ⟨_,rfl,rfl⟩)))
   ·exact .inr (.inr (.inr (.inr ⟨_,rfl,rfl⟩)))
theorem zg{α β:Type}{f g:α→Option β}{l:List α}(h:∀x∈l,f x=g x):omap f l=omap g l:=by
 induction l with
 |nil=>rfl
 |cons a r ih=>simp only[omap,h a (by simp),ih (fun x hx=>h x (by simp[hx]))]
theorem UU{σ σ':ag}(h:Alike σ σ'):∀(k:Nat) (v:AV),aG σ k v=aG σ' k v:=by
 intro k
 induction k with
 |zero=>intro v;rfl
 |succ k ih=>
  intro v;have e:aG σ k=aG σ' k:=funext ih;cases v with
  |sl b n=>simp only[aG];rcases h.at b with⟨h1,h2⟩|⟨_,_,_,_,h1,h2⟩|⟨_,_,_,_,h1,h2⟩|⟨_,_,_,h1,h2⟩|⟨_,h1,h2⟩<;>simp only[h1,h2,e]
  |ptr b n i o=>simp only[aG];rcases h.at b with⟨h1,h2⟩|⟨_,_,_,_,h1,h2⟩|⟨_,_,_,_,h1,h2⟩|⟨_,_,_,h1,h2⟩|⟨_,h1,h2⟩<;>simp only[h1,h2,e]
  |map b=>simp only[aG];rcases h.at b with⟨h1,h2⟩|⟨_,_,_,_,h1,h2⟩|⟨_,_,_,_,h1,h2⟩|⟨_,_,_,h1,h2⟩|⟨_,h1,h2⟩<;>simp only[h1,h2,e]
  |_=>simp only[aG,e]
theorem aec{σ σ':ag}(h:Alike σ σ'):∀(k:Nat) (v:AV),refs σ k v=refs σ' k v:=by
 intro k
 induction k with
 |zero=>intro v;rfl
 |succ k ih=>
  intro v;have e:refs σ k=refs σ' k:=funext ih;cases v with
  |sl b n=>simp only[refs];rcases h.at b with⟨h1,h2⟩|⟨_,_,_,_,h1,h2⟩|⟨_,_,_,_,h1,h2⟩|⟨_,_,_,h1,h2⟩|⟨_,h1,h2⟩<;>simp only[h1,h2,e]
  |ptr b n i o=>simp only[refs];rcases h.at b with⟨h1,h2⟩|⟨_,_,_,_,h1,h2⟩|⟨_,_,_,_,h1,h2⟩|⟨_,_,_,h1,h2⟩|⟨_,h1,h2⟩<;>simp only[h1,h2,e]
  |map b=>simp only[refs];rcases h.at b with⟨h1,h2⟩|⟨_,_,_,_,h1,h2⟩|⟨_,_,_,_,h1,h2⟩|⟨_,_,_,h1,h2⟩|⟨_,h1,h2⟩<;>simp only[h1,h2,e]
  |_=>simp only[refs,e]
theorem XS{σ σ':ag}(h:Alike σ σ')(s:Nat)(g:Bool)(a:AV):gU σ s g a=gU σ' s g a:=by
 cases a with
 |ptr b n i o=>simp only[gU];rcases h.at b with⟨h1,h2⟩|⟨_,_,_,_,h1,h2⟩|⟨_,_,_,_,h1,h2⟩|⟨_,_,_,h1,h2⟩|⟨_,h1,h2⟩<;>simp only[h1,h2]
 |p v=>cases v<;>rfl
 |_=>rfl
theorem aez{σ σ':ag}(h:Alike σ σ')(b:Nat):RW σ b=RW σ' b:=by
 unfold RW;rcases h.at b with⟨h1,h2⟩|⟨_,_,_,_,h1,h2⟩|⟨_,_,_,_,h1,h2⟩|⟨_,_,_,h1,h2⟩|⟨_,h1,h2⟩<;>simp only[h1,h2]<;>rfl
theorem aev{σ σ':ag}(h:Alike σ σ')(b:Nat):aeu σ b=aeu σ' b:=by
 unfold aeu;rcases h.at b with⟨h1,h2⟩|⟨_,_,_,_,h1,h2⟩|⟨_,_,_,_,h1,h2⟩|⟨_,_,_,h1,h2⟩|⟨_,h1,h2⟩<;>simp only[h1,h2]<;>rfl
theorem adn{σ σ':ag}(h:Alike σ σ')(a:AV):bJ σ a=bJ σ' a:=by
 cases a with
 |sl b n=>simp only[bJ,aev h]
 |p v=>cases v<;>rfl
 |_=>rfl
theorem adm{σ σ':ag}(h:Alike σ σ')(a:AV):AX σ a=AX σ' a:=by
 cases a with
 |map b=>simp only[AX];rcases h.at b with⟨h1,h2⟩|⟨_,_,_,_,h1,h2⟩|⟨_,_,_,_,h1,h2⟩|⟨_,_,_,h1,h2⟩|⟨_,h1,h2⟩<;>simp only[h1,h2]
 |p v=>cases v<;>rfl
 |_=>rfl
section
variable (p:Program) (cq:FuncId→Bool)
def Zu(τ:Tm)(σ:ag)(op:mI)(v:AV)(σ':ag):Prop:=Gf p cq ⟨τ,σ,0,none⟩ op v σ'
end
variable {p:Program} {cq:FuncId→Bool}
theorem YN{σ σ':ag}(h:Alike σ σ')(a:AV):Ti σ a=Ti σ' a:=by
 cases a with
 |sl b n=>simp only[Ti];rcases h.at b with⟨h1,h2⟩|⟨_,_,_,_,h1,h2⟩|⟨_,_,_,_,h1,h2⟩|⟨_,_,_,h1,h2⟩|⟨_,h1,h2⟩<;>simp only[h1,h2]
 |p v=>cases v<;>rfl
 |_=>rfl
theorem X8{op:mI}(hk:op.kind cq=.q0){σ σ':ag}{τ:Tm}{v:AV}(h:plain σ τ op=some (v,σ')):σ'=σ∧∀σ2,plain σ2 τ op=some (v,σ2):=by
 have quietly:plain σ τ op=(quiet σ τ op).map (fun v=>(v,σ))→(∀σ2,plain σ2 τ op=(quiet σ τ op).map fun v=>(v,σ2))→σ'=σ∧∀σ2,plain σ2 τ op=some (v,σ2):=by
  intro h1 h2;rw[h1]at h;simp only[gI,qX]at h;obtain⟨u,hu,rfl,rfl⟩:=h;exact⟨rfl,fun σ2=>by rw[h2,hu];rfl⟩
 cases op<;>simp only[mI.kind,reduceCtorEq]at hk
 case mv x eg=>
  cases eg with
  |true=>simp at hk
  |false=>
   simp only[plain]at h ⊢;split at h
   ·rename_i he
    simp only[kS,if_false,bI,qX]at h;obtain⟨rfl,rfl⟩:=h;exact⟨rfl,fun σ2=>by simp⟩
   ·rename_i u hne
    simp only[bI,qX]at h;obtain⟨rfl,rfl⟩:=h;exact⟨rfl,fun σ2=>rfl⟩
 case dV f as=>split at hk<;>cases hk
 case iU es z n ps=>
  simp only[plain,gI,qX]at h;obtain⟨qs,h1,rfl,rfl⟩:=h;exact⟨rfl,fun σ2=>by simp only[plain,h1];rfl⟩
 all_goals exact quietly rfl (fun _=>rfl)
theorem UR {op:mI} (hk:op.kind cq=.q) {σ σ':ag} {τ:Tm} {v:AV} (h:plain σ τ op=some (v,σ')):σ'=σ∧(∀ σ2,Alike σ σ2→plain σ2 τ op=some (v,σ2))∧∀ ext,plain (σ++ext) τ op=some (v,σ++ext):=by
  have quietly:plain σ τ op=(quiet σ τ op).map (fun v=>(v,σ))→(∀ σ2,plain σ2 τ op=(quiet σ2 τ op).map fun v=>(v,σ2))→(∀ σ2,Alike σ σ2→quiet σ τ op=quiet σ2 τ op)→(∀ ext u,quiet σ τ op=some u→quiet (σ++ext) τ op=some u) →
      σ'=σ∧(∀ σ2,Alike σ σ2→plain σ2 τ op=some (v,σ2))∧∀ ext,plain (σ++ext) τ op=some (v,σ++ext):=by
    intro h1 h2 h3 h4;rw [h1] at h
    simp only [gI,qX] at h
    obtain ⟨u,hu,rfl,rfl⟩:=h
    exact ⟨rfl,fun σ2 ha=>by rw [h2,← h3 σ2 ha,hu];rfl,fun ext=>by rw [h2,h4 ext u hu];rfl⟩
  have app:∀ (ext:ag) (b:Nat) (o:Obj),σ[b]? = some o→(σ++ext)[b]? = some o:=fun ext b o ho=>by rw [AN (fU.1 ho).1];exact ho
  cases op<;>simp only [mI.kind,reduceCtorEq] at hk
  case mv x eg=>cases eg<;>simp at hk
  case dV f as=>split at hk<;>cases hk
  case load s g x=>
    refine quietly rfl (fun _=>rfl) (fun σ2 ha=>XS ha s g _) (fun ext u hu=>?_)
    simp only [quiet] at hu ⊢
    generalize x.val τ=xv at hu;cases xv with
    | ptr b n i o=>
      simp only [gU] at hu ⊢
      cases hb:σ[b]? with
      | none=>rw [hb] at hu;cases hu
      | some ob=>
        have e:(σ++ext)[b]? = σ[b]? := by { rw [hb];exact app ext b ob hb }
        simp only [e]
        exact hu
    | p q=>cases q<;>exact hu
    | _=>exact hu
  case au es x i=>
    refine quietly rfl (fun _=>rfl) (fun σ2 ha=>?_) (fun ext u hu=>?_)
    · simp only [quiet,aez ha]
    · simp only [quiet] at hu ⊢
      cases hn:nc (i.val τ) with
      | none=>rw [hn] at hu;cases hu
      | some n=>
        rw [hn] at hu
        simp only [zy] at hu ⊢
        generalize x.val τ=xv at hu;cases xv with
        | sl b m=>
          simp only [RW] at hu ⊢
          cases hb:σ[b]? with
          | none=>simp only [hb,Option.bind_none] at hu;simp at hu
          | some ob => have e : (σ ++ ext)[b]? = σ[b]? := by { rw [hb]; exact app ext b ob hb }
                       simp only [e];exact hu
        | p q=>cases q<;>exact hu
        | _=>exact hu
  case MH es x lo hi mx=>exact quietly rfl (fun _=>rfl) (fun _ _=>rfl) (fun _ _ hu=>hu)
  case lookup kl z x k ok=>
    refine quietly rfl (fun _=>rfl) (fun σ2 ha=>?_) (fun ext u hu=>?_)
    · simp only [quiet]
      generalize x.val τ=xv;cases xv with
      | map b=>rcases ha.at b with ⟨h1,h2⟩ | ⟨_,_,_,_,h1,h2⟩ | ⟨_,_,_,_,h1,h2⟩ | ⟨_,_,_,h1,h2⟩ | ⟨_,h1,h2⟩<;>simp only [h1,h2]
      | p q=>cases q<;>rfl
      | _=>rfl
    · simp only [quiet] at hu ⊢
      generalize x.val τ=xv at hu;cases xv with
      | map b=>
        cases hb:σ[b]? with
        | none=>
          simp only [hb] at hu
          split at hu
          · split at hu
            · cases hu
            · cases hu
          · cases hu
        | some ob=>
        have e:(σ++ext)[b]? = σ[b]? := by { rw [hb];exact app ext b ob hb }
        simp only [e]
        exact hu
      | p q=>cases q<;>exact hu
      | _=>exact hu
  case bJ x=>
    refine quietly rfl (fun _=>rfl) (fun σ2 ha=>by simp only [quiet,adn ha]) (fun ext u hu=>?_)
    simp only [quiet] at hu ⊢
    generalize x.val τ=xv at hu;cases xv with
    | sl b n=>
      simp only [bJ,aeu] at hu ⊢
      cases hb:σ[b]? with
      | none=>simp [hb] at hu
      | some ob=>
        have e:(σ++ext)[b]? = σ[b]? := by { rw [hb];exact app ext b ob hb }
        simp only [e]
        exact hu
    | p q=>cases q<;>exact hu
    | _=>exact hu
  case AX x=>
    refine quietly rfl (fun _=>rfl) (fun σ2 ha=>by simp only [quiet,adm ha]) (fun ext u hu=>?_)
    simp only [quiet] at hu ⊢
    generalize x.val τ=xv at hu;cases xv with
    | map b=>
      simp only [AX] at hu ⊢
      cases hb:σ[b]? with
      | none=>rw [hb] at hu;cases hu
      | some ob=>
        have e:(σ++ext)[b]? = σ[b]? := by { rw [hb];exact app ext b ob hb }
        simp only [e]
        exact hu
    | p q=>cases q<;>exact hu
    | _=>exact hu
  case b2s x=>
    refine quietly rfl (fun _=>rfl) (fun σ2 ha=>by simp only [quiet,YN ha]) (fun ext u hu=>?_)
    simp only [quiet] at hu ⊢
    generalize x.val τ=xv at hu;cases xv with
    | sl b n=>
      simp only [Ti] at hu ⊢
      cases hb:σ[b]? with
      | none=>rw [hb] at hu;cases hu
      | some ob=>
        have e:(σ++ext)[b]? = σ[b]? := by { rw [hb];exact app ext b ob hb }
        simp only [e]
        exact hu
    | p q=>cases q<;>exact hu
    | _=>exact hu
theorem Px{i:fQ}{σ σ':ag}{τ:Tm}{v:AV}(hp:eR τ i=true)(h:plain σ τ i.op=some (v,σ')):σ'=σ∧∀σ2,plain σ2 τ i.op=some (v,σ2):=by
 obtain⟨d,op,g⟩:=i
 have quietly:plain σ τ op=(quiet σ τ op).map (fun v=>(v,σ))→(∀σ2,plain σ2 τ op=(quiet σ τ op).map fun v=>(v,σ2))→σ'=σ∧∀σ2,plain σ2 τ op=some (v,σ2):=by
  intro h1 h2;rw[show plain σ τ (fQ.mk d op g).op=plain σ τ op from rfl,h1]at h;simp only[gI,qX]at h;obtain⟨u,hu,rfl,rfl⟩:=h;exact⟨rfl,fun σ2=>by rw[h2,hu];rfl⟩
 have c:∀x:O,(match x.val τ with|.p _=>true|_=>false)=true→∃q,x.val τ=.p q:=by
  intro x hx;split at hx
  ·exact⟨_,by assumption⟩
  ·cases hx
 cases op<;>simp only[eR,kS]at hp
 case load s g' x=>
  obtain⟨q,hq⟩:=c x hp;exact quietly rfl fun σ2=>by simp only[plain,quiet,hq];cases q<;>rfl
 case au es x i=>
  obtain⟨q,hq⟩:=c x hp;exact quietly rfl fun σ2=>by simp only[plain,quiet,hq];cases q<;>rfl
 case MH es x lo hi mx=>exact quietly rfl fun σ2=>rfl
 case lookup kl z x k ok=>
  obtain⟨q,hq⟩:=c x hp;exact quietly rfl fun σ2=>by simp only[plain,quiet,hq];cases q<;>rfl
 case bJ x=>
  obtain⟨q,hq⟩:=c x hp;exact quietly rfl fun σ2=>by simp only[plain,quiet,hq];cases q<;>rfl
 case AX x=>
  obtain⟨q,hq⟩:=c x hp;exact quietly rfl fun σ2=>by simp only[plain,quiet,hq];cases q<;>rfl
 case b2s x=>
  obtain⟨q,hq⟩:=c x hp;exact quietly rfl fun σ2=>by simp only[plain,quiet,hq];cases q<;>rfl
theorem afF {op:mI} (hk:op.kind cq=.a) {σ σ':ag} {τ:Tm} {v:AV} (h:plain σ τ op=some (v,σ')):∃ ext,σ'=σ++ext∧∀ σ2:ag,σ2.length=σ.length→plain σ2 τ op=some (v,σ2++ext):=by
  have eag:∀ (cs:List AV) (σ:ag),∃ ext,(aW cs σ).2=σ++ext∧∀ σ2:ag,σ2.length=σ.length→(aW cs σ2).1=(aW cs σ).1∧(aW cs σ2).2=σ2++ext:=by
    intro cs
    induction cs with
    | nil=>intro σ;exact ⟨[],by simp [aW],fun σ2 _=>by simp [aW]⟩
    | cons c cs ih=>
      intro σ
      cases c<;>first
        | (obtain ⟨ext,he,h2⟩:=ih σ
           exact ⟨ext,by simpa [aW] using he,fun σ2 hl=>by simpa [aW] using h2 σ2 hl⟩)
        | (obtain ⟨ext,he,h2⟩:=ih (σ++[.pv 0 [] false])
           refine ⟨.pv 0 [] false :: ext,by simp [aW,he],fun σ2 hl=>?_⟩
           have:=h2 (σ2++[.pv 0 [] false]) (by simp [hl])
           simp [aW,this.1,this.2,hl])
  have var:∀ (cs:List AV) (n:Nat),∃ ext,(aW cs σ).2++[mkObj n (aW cs σ).1]=σ++ext∧∀ σ2:ag,σ2.length=σ.length→(aW cs σ2).2.length=(aW cs σ).2.length∧(aW cs σ2).2++[mkObj n (aW cs σ2).1]=σ2++ext:=by
    intro cs n
    obtain ⟨ext,he,h2⟩:=eag cs σ
    refine ⟨ext++[mkObj n (aW cs σ).1],by rw [he,TA],fun σ2 hl=>?_⟩
    obtain ⟨h3,h4⟩:=h2 σ2 hl
    exact ⟨by rw [h4,he,jE,jE,hl],by rw [h3,h4,TA]⟩
  cases op<;>simp only [mI.kind,reduceCtorEq] at hk
  case mv x eg=>
    cases eg with
    | false=>simp at hk
    | true=>
      simp only [plain] at h ⊢
      split at h
      · rename_i hx
        simp only [if_true,bI,qX] at h
        obtain ⟨rfl,rfl⟩:=h
        exact ⟨_,rfl,fun σ2 hl=>by simp [hl]⟩
      · rename_i u hx
        simp only [bI,qX] at h
        obtain ⟨rfl,rfl⟩:=h
        exact ⟨[],by simp,fun σ2 _=>by simp⟩
  case dV f as=>split at hk<;>cases hk
  case alloc z s=>
    simp only [plain,bI,qX] at h ⊢
    obtain ⟨rfl,rfl⟩:=h
    obtain ⟨ext,he,h2⟩:=var z s
    exact ⟨ext,he,fun σ2 hl=>⟨by rw [(h2 σ2 hl).1],(h2 σ2 hl).2⟩⟩
  case init s g x ro=>
    simp only [plain,fV] at h ⊢
    obtain ⟨cs,hcs,h⟩:=h
    split at h
    · rename_i hro
      split at h
      · rename_i ps hps
        simp only [bI,qX] at h
        obtain ⟨rfl,rfl⟩:=h
        exact ⟨[],by simp,fun σ2 _=>⟨cs,hcs,by simp [hro,hps]⟩⟩
      · rename_i hps
        simp only [bI,qX] at h
        obtain ⟨rfl,rfl⟩:=h
        exact ⟨_,rfl,fun σ2 hl=>⟨cs,hcs,by simp [hro,hps,hl]⟩⟩
    · rename_i hro
      simp only [bI,qX] at h
      obtain ⟨rfl,rfl⟩:=h
      obtain ⟨ext,he,h2⟩:=var cs s
      exact ⟨ext,he,fun σ2 hl=>⟨cs,hcs,by rw [if_neg hro];simp only [bI,qX];exact ⟨by rw [(h2 σ2 hl).1],(h2 σ2 hl).2⟩⟩⟩
  case box s g x ro=>
    simp only [plain,fV] at h ⊢
    obtain ⟨cs,hcs,h⟩:=h
    split at h
    · rename_i hro
      split at h
      · rename_i ps hps
        simp only [bI,qX] at h
        obtain ⟨rfl,rfl⟩:=h
        exact ⟨[],by simp,fun σ2 _=>⟨cs,hcs,by simp [hro,hps]⟩⟩
      · rename_i hps
        simp only [bI,qX] at h
        obtain ⟨rfl,rfl⟩:=h
        exact ⟨_,rfl,fun σ2 hl=>⟨cs,hcs,by simp [hro,hps,hl]⟩⟩
    · rename_i hro
      simp only [bI,qX] at h
      obtain ⟨rfl,rfl⟩:=h
      obtain ⟨ext,he,h2⟩:=var cs s
      exact ⟨ext,he,fun σ2 hl=>⟨cs,hcs,by rw [if_neg hro];simp only [bI,qX];exact ⟨by rw [(h2 σ2 hl).1],(h2 σ2 hl).2⟩⟩⟩
  case dC es z n ps=>
    simp only [plain,gI,qX] at h ⊢
    obtain ⟨cs,h1,rfl,rfl⟩:=h
    exact ⟨_,rfl,fun σ2 hl=>⟨cs,h1,by rw [hl],rfl⟩⟩
  case DV=>
    simp only [plain,bI,qX] at h ⊢
    obtain ⟨rfl,rfl⟩:=h
    exact ⟨_,rfl,fun σ2 hl=>⟨by rw [hl],rfl⟩⟩
  case wB es b z l c=>
    simp only [plain,fV] at h ⊢
    obtain ⟨l',h1,c',h2,h⟩:=h
    split at h
    · rename_i hle
      split at h
      · rename_i zz hz
        simp only [bI,qX] at h
        obtain ⟨rfl,rfl⟩:=h
        exact ⟨_,rfl,fun σ2 hl=>⟨l',h1,c',h2,by simp [hle,hl]⟩⟩
      · rename_i hz
        simp only [bI,qX] at h
        obtain ⟨rfl,rfl⟩:=h
        exact ⟨_,rfl,fun σ2 hl=>⟨l',h1,c',h2,by simp only [hle,and_self,if_true,hl]⟩⟩
    · cases h
theorem dw{τ:Tm}{σ σ':ag}{op:mI}{v:AV}(hc:op.ek=false):Zu p cq τ σ op v σ'↔plain σ τ op=some (v,σ'):=by
 unfold Zu Gf;split
 ·simp[mI.ek]at hc
 ·simp[mI.ek]at hc
 ·simp[mI.ek]at hc
 ·rfl
theorem vH{op:mI}(h:op.kind cq=.q0∨op.kind cq=.q∨op.kind cq=.a):op.ek=false:=by
 cases op<;>first|rfl|skip
 ·simp only[mI.kind]at h
  split at h<;>simp at h
 ·simp[mI.kind]at h
 ·simp[mI.kind]at h
theorem Ut{σ ext:ag}{b:Nat}(h:b<σ.length):dK (σ++ext) b=dK σ b++ext:=by
 unfold dK;rw[AN h];cases σ[b]? with
 |none=>rfl
 |some o=>cases o<;>simp only[List.set_append_left _ _ h]
theorem Hw{σ:ag}{b:Nat}:(dK σ b).length=σ.length:=by unfold dK;split<;>simp
theorem FJ:∀{L:List Nat} {σ:ag},(bL σ L).length=σ.length
 | [],_=>rfl
 |b::L,σ=>by rw[bL,FJ,Hw]
theorem FI:∀{L:List Nat} {σ ext:ag},(∀b∈L,b<σ.length)→bL (σ++ext) L=bL σ L++ext
 | [],_,_,_=>rfl
 |b::L,σ,ext,h=>by
  rw[bL,bL,Ut (h b (by simp))]
  exact FI fun c hc=>by rw[Hw];exact h c (by simp[hc])
theorem uu{α β:Type}{f:α→Option β}:∀{l:List α} {r:List β},omap f l=some r→∀a∈l,∃b,f a=some b
 | [],_,_,a,ha=>by simp at ha
 |x::l,r,h,a,ha=>by
  simp only[omap]at h;split at h
  ·rename_i b hb
   split at h
   ·rename_i bs hbs
    rcases pn.1 ha with rfl|ha
    ·exact⟨b,hb⟩
    ·exact uu hbs a ha
   ·cases h
  ·cases h
theorem Hu{α β:Type}{f g:α→List β}{l:List α}(h:∀a∈l,f a=g a):l.flatMap f=l.flatMap g:=by
 rw[List.flatMap_def,List.flatMap_def,ab6 h]
def aio(σ ext:ag)(k:Nat)(l:List AV):Prop:=omap (aG (σ++ext) k) l=omap (aG σ k) l∧l.flatMap (refs (σ++ext) k)=l.flatMap (refs σ k)∧∀b∈l.flatMap (refs σ k),b<σ.length
theorem GF{σ:ag}(ext:ag):∀(k:Nat) (v:AV) (q:PV),aG σ k v=some q→aG (σ++ext) k v=some q∧refs (σ++ext) k v=refs σ k v∧∀b∈refs σ k v,b<σ.length:=by
 intro k
 induction k with
 |zero=>intro v q h;cases h
 |succ k ih=>
  intro v q h;have app:∀(b:Nat) (o:Obj),σ[b]?=some o→(σ++ext)[b]?=some o∧b<σ.length:=fun b o ho=>⟨by rw[AN (fU.1 ho).1];exact ho,(fU.1 ho).1⟩
  have list:∀(l:List AV) (r:List PV),omap (aG σ k) l=some r→aio σ ext k l:=by
   intro l r hr;refine⟨zg fun a ha=>?_,Hu fun a ha=>?_,fun b hb=>?_⟩
   ·obtain⟨b,hb⟩:=uu hr a ha
    rw[hb,(ih a b hb).1]
   ·obtain⟨b,hb⟩:=uu hr a ha
    exact(ih a b hb).2.1
   ·obtain⟨a,ha,hb⟩:=Jp.1 hb
    obtain⟨q',hq'⟩:=uu hr a ha;exact(ih a q' hq').2.2 b hb
  cases v with
  |any=>cases h
  |yield l=>cases h
  |p q'=>exact⟨h,rfl,by simp[refs]⟩
  |aC=>exact⟨h,rfl,by simp[refs]⟩
  |fn f cap=>
   simp only[aG]at h;obtain⟨r,hr,rfl⟩:=gI.1 h;obtain⟨l1,l2,l3⟩:=list cap r hr;exact⟨by simp only[aG,l1,hr];rfl,by simp only[refs];exact l2,by simp only[refs];exact l3⟩
  |agg cs=>
   simp only[aG]at h;obtain⟨r,hr,rfl⟩:=gI.1 h;obtain⟨l1,l2,l3⟩:=list cs r hr;exact⟨by simp only[aG,l1,hr];rfl,by simp only[refs];exact l2,by simp only[refs];exact l3⟩
  |jC cs=>
   simp only[aG]at h;obtain⟨r,hr,rfl⟩:=gI.1 h;obtain⟨l1,l2,l3⟩:=list cs r hr;exact⟨by simp only[aG,l1,hr];rfl,by simp only[refs];exact l2,by simp only[refs];exact l3⟩
  |sl b n=>
   simp only[aG]at h;cases ho:σ[b]? with
   |none=>simp[ho]at h
   |some o=>
    obtain⟨h1,hlt⟩:=app b o ho;simp only[ho]at h;cases o with
    |pv es rows f=>exact⟨by simp only[aG,h1];exact h,by simp only[refs,h1,ho],by simp only[refs,ho];intro c hc;rw[Gg]at hc;rw[hc];exact hlt⟩
    |av es rows f=>
     simp only at h
     split at h
     ·rename_i hl
      obtain⟨rs,hrs,rfl⟩:=gI.1 h;have e:∀r∈rows,aio σ ext k r:=fun r hr=>by obtain⟨x,hx⟩:=uu hrs r hr;exact list r x hx
      refine⟨?_,?_,?_⟩
      ·simp only[aG,h1]
       rw[if_pos hl,zg (fun r hr=>(e r hr).1),hrs];rfl
      ·simp only[refs,h1,ho]
       rw[Hu fun r hr=>(e r hr).2.1]
      ·simp only[refs,ho]
       intro c hc;rcases pn.1 hc with rfl|hc
       ·exact hlt
       ·obtain⟨r,hr,hc⟩:=Jp.1 hc
        exact(e r hr).2.2 c hc
     ·cases h
    |map=>cases h
    |loop=>cases h
    |gone=>cases h
  |ptr b n i oo=>
   simp only[aG]at h;cases ho:σ[b]? with
   |none=>simp[ho]at h
   |some o=>
    obtain⟨h1,hlt⟩:=app b o ho;simp only[ho]at h;cases o with
    |pv es rows f=>exact⟨by simp only[aG,h1];exact h,by simp only[refs,h1,ho],by simp only[refs,ho];intro c hc;rw[Gg]at hc;rw[hc];exact hlt⟩
    |av es rows f=>
     simp only at h
     split at h
     ·rename_i hl
      obtain⟨row,hrow,h⟩:=fV.1 h;obtain⟨rs,hrs,rfl⟩:=gI.1 h;have e:=list row rs hrs;refine⟨?_,?_,?_⟩
      ·simp only[aG,h1]
       rw[if_pos hl,hrow,zy,e.1,hrs];rfl
      ·simp only[refs,h1,ho,hrow,VE]
       rw[e.2.1]
      ·simp only[refs,ho,hrow,VE]
       intro c hc;rcases pn.1 hc with rfl|hc
       ·exact hlt
       ·exact e.2.2 c hc
     ·cases h
    |map=>cases h
    |loop=>cases h
    |gone=>cases h
  |map b=>
   simp only[aG]at h;cases ho:σ[b]? with
   |none=>simp[ho]at h
   |some o=>
    obtain⟨h1,hlt⟩:=app b o ho;simp only[ho]at h;cases o with
    |map es f=>
     simp only at h
     obtain⟨rs,hrs,rfl⟩:=gI.1 h
     have e:∀x∈es,∃q,aG σ k x.2=some q:=fun x hx=>by
      obtain⟨y,hy⟩:=uu hrs x hx;obtain⟨q,hq,_⟩:=gI.1 hy;exact⟨q,hq⟩
     refine⟨?_,?_,?_⟩
     ·simp only[aG,h1]
      rw[zg (g:=fun e:PV×AV=>(aG σ k e.2).map fun r=>(e.1,r)) fun x hx=>by obtain⟨q,hq⟩:=e x hx;rw[hq,(ih _ q hq).1],hrs];rfl
     ·simp only[refs,h1,ho]
      rw[Hu fun x hx=>by obtain⟨q,hq⟩:=e x hx;exact(ih _ q hq).2.1]
     ·simp only[refs,ho]
      intro c hc;rcases pn.1 hc with rfl|hc
      ·exact hlt
      ·obtain⟨x,hx,hc⟩:=Jp.1 hc
       obtain⟨q,hq⟩:=e x hx;exact(ih _ q hq).2.2 c hc
    |_=>cases h
theorem Et{σ:ag}(ext:ag){l:List AV}{r:List PV}{k:Nat}(hr:omap (aG σ k) l=some r):aio σ ext k l:=by
 refine⟨zg fun a ha=>?_,Hu fun a ha=>?_,fun b hb=>?_⟩
 ·obtain⟨b,hb⟩:=uu hr a ha
  rw[hb,(GF ext k a b hb).1]
 ·obtain⟨b,hb⟩:=uu hr a ha
  exact(GF ext k a b hb).2.1
 ·obtain⟨a,ha,hb⟩:=Jp.1 hb
  obtain⟨q',hq'⟩:=uu hr a ha;exact(GF ext k a q' hq').2.2 b hb
theorem akt{op:mI}(hk:op.kind cq=.c){τ:Tm}{σ σ':ag}{v:AV}(h:Zu p cq τ σ op v σ'):∃L:List Nat,σ'=bL σ L∧(∀σ2,Alike σ σ2→Zu p cq τ σ2 op v (bL σ2 L))∧∀ext,Zu p cq τ (σ++ext) op v (bL σ L++ext):=by
 cases op<;>simp only[mI.kind,reduceCtorEq]at hk
 case mv x eg=>cases eg<;>simp at hk
 case dV f as=>
  split at hk
  ·rename_i hcq
   have h':kr p cq f (as.map (·.val τ)) σ v σ':=h;rcases h' with⟨ps,r,h1,h2,h3,h4⟩|⟨h1,_⟩
   ·have hp:∀σ2,Alike σ σ2→omap (aG σ2 depth) (as.map (·.val τ))=some ps:=fun σ2 ha=>by
     rw[←h1];exact(zg (fun x _=>UU ha depth x)).symm
    have hr:∀σ2,Alike σ σ2→(as.map (·.val τ)).flatMap (refs σ2 depth)=(as.map (·.val τ)).flatMap (refs σ depth):=fun σ2 ha=>by
     have:refs σ2 depth=refs σ depth:=funext fun x=>(aec ha depth x).symm
     rw[this]
    by_cases hf:r.flat=true
    ·refine⟨[],by rw[h4];simp[ed,hf,bL],fun σ2 ha=>?_,fun ext=>.inl ⟨ps,r,(Et ext h1).1.trans h1,h2,h3,by simp[ed,hf,bL]⟩⟩
     exact .inl ⟨ps,r,hp σ2 ha,h2,h3,by simp[ed,hf,bL]⟩
    ·refine⟨(as.map (·.val τ)).flatMap (refs σ depth),by rw[h4];simp[ed,hf],fun σ2 ha=>?_,fun ext=>.inl ⟨ps,r,(Et ext h1).1.trans h1,h2,h3,?_⟩⟩
     rotate_left
     ·obtain⟨_,a2,a3⟩:=Et ext h1
      have:ed (σ++ext) (as.map (·.val τ)) r=bL (σ++ext) ((as.map (·.val τ)).flatMap (refs (σ++ext) depth)):=by simp[ed,hf]
      rw[show(({ τ:=τ,σ:=σ++ext,nt:=0,rd:=none }:St).σ)=σ++ext from rfl,this,a2];exact(FI a3).symm
     refine .inl ⟨ps,r,hp σ2 ha,h2,h3,?_⟩;have:ed σ2 (as.map (·.val τ)) r=bL σ2 ((as.map (·.val τ)).flatMap (refs σ2 depth)):=by simp[ed,hf]
     rw[show(({ τ:=τ,σ:=σ2,nt:=0,rd:=none }:St).σ)=σ2 from rfl,this,hr σ2 ha]
   ·rw[hcq]at h1;cases h1
  ·cases hk
theorem amE{x y:mI}{τ:Tm}{σ σ1 σ2:ag}{vx vy:AV}(hx:Zu p cq τ σ x vx σ1)(hy:Zu p cq τ σ1 y vy σ2)(hk:HV (x.kind cq) (y.kind cq)=true):∃σ1',Zu p cq τ σ y vy σ1'∧Zu p cq τ σ1' x vx σ2:=by
 by_cases hx0:x.kind cq=.q0
 ·have hc:=vH (.inl hx0)
  obtain⟨rfl,h⟩:=X8 hx0 ((dw hc).1 hx);exact⟨σ2,hy,(dw hc).2 (h σ2)⟩
 by_cases hy0:y.kind cq=.q0
 ·have hc:=vH (.inl hy0)
  obtain⟨rfl,h⟩:=X8 hy0 ((dw hc).1 hy);exact⟨σ,(dw hc).2 (h σ),hx⟩
 cases hkx:x.kind cq with
 |q0=>exact absurd hkx hx0
 |q=>
  have hc:=vH (.inr (.inl hkx));obtain⟨rfl,h1,h2⟩:=UR hkx ((dw hc).1 hx);cases hky:y.kind cq with
  |q0=>exact absurd hky hy0
  |q=>
   obtain⟨rfl,_,_⟩:=UR hky ((dw (vH (.inr (.inl hky)))).1 hy);exact⟨_,hy,hx⟩
  |c=>
   obtain⟨L,rfl,_⟩:=akt hky hy;exact⟨_,hy,(dw hc).2 (h1 _ (rN _ L))⟩
  |a=>
   obtain⟨ext,rfl,_⟩:=afF hky ((dw (vH (.inr (.inr hky)))).1 hy);exact⟨_,hy,(dw hc).2 (h2 ext)⟩
  |w=>rw[hkx,hky]at hk;cases hk
 |c=>
  obtain⟨L,rfl,h1,h1e⟩:=akt hkx hx;cases hky:y.kind cq with
  |q0=>exact absurd hky hy0
  |q=>
   have hc:=vH (.inr (.inl hky));obtain⟨rfl,h2,_⟩:=UR hky ((dw hc).1 hy);exact⟨σ,(dw hc).2 (h2 _ (rN σ L).symm),hx⟩
  |c=>
   obtain⟨L',rfl,h2,_⟩:=akt hky hy;refine⟨bL σ L',h2 σ (rN σ L).symm,?_⟩;have:=h1 (bL σ L') (rN σ L');rw[Oz]at this;exact this
  |a=>
   have hc:=vH (.inr (.inr hky));obtain⟨ext,rfl,h2⟩:=afF hky ((dw hc).1 hy);exact⟨σ++ext,(dw hc).2 (h2 σ FJ.symm),h1e ext⟩
  |w=>rw[hkx,hky]at hk;cases hk
 |a=>
  cases hky:y.kind cq with
  |q0=>exact absurd hky hy0
  |_=>rw[hkx,hky]at hk;cases hk
 |w=>
  cases hky:y.kind cq with
  |q0=>exact absurd hky hy0
  |_=>rw[hkx,hky]at hk;cases hk
theorem Sz:∀{cs:List AV} {σ:ag},(∀c∈cs,c≠.aC)→aW cs σ=(cs,σ)
 | [],σ,_=>rfl
 |c::cs,σ,h=>by
  have ih:=Sz (cs:=cs) (σ:=σ) (fun x hx=>h x (by simp[hx]))
  cases c with
  |aC=>exact absurd rfl (h .aC (by simp))
  |_=>simp only[aW,ih]
theorem T8{s:Nat}{g:Bool}{v:AV}{cs:List AV}(hn:zd v=true)(h:cellsOf s g v=some cs):∀c∈cs,c≠.aC:=by
 intro c hc;unfold cellsOf at h;split at h
 ·split at h
  ·split at h
   ·cases h
    obtain⟨q,_,rfl⟩:=E0.1 hc;simp
   ·cases h
  ·split at h
   ·cases h
    simp only[zd,Ca]at hn;have:=hn c hc
    rintro rfl
    simp at this
   ·cases h
  ·cases h
 ·split at h
  ·cases h
  ·cases h
  ·cases h
  ·cases h
  ·cases h
  ·cases h
   rw[Gg]at hc;subst hc
   rintro rfl
   simp[zd]at hn
theorem aes{σ σ':ag}{b n i o:Nat}{new:List AV}(h:setRow σ b n i o new=some σ'):∃ob,σ'=σ.set b ob∧∀σ2:ag,σ2[b]?=σ[b]? → setRow σ2 b n i o new=some (σ2.set b ob):=by
 unfold setRow at h;split at h
 ·rename_i es rows ho
  split at h
  ·rename_i hl
   obtain⟨r,hr,h⟩:=fV.1 h;split at h
   ·rename_i ps hps
    obtain⟨r',hr',rfl⟩:=gI.1 h;exact⟨_,rfl,fun σ2 h2=>by unfold setRow;simp only[h2,ho,hl,if_true,hr,zy,hps,hr',xu]⟩
   ·rename_i hps
    obtain⟨r',hr',rfl⟩:=gI.1 h;exact⟨_,rfl,fun σ2 h2=>by unfold setRow;simp only[h2,ho,hl,if_true,hr,zy,hps,hr',xu]⟩
  ·cases h
 ·rename_i es rows ho
  split at h
  ·rename_i hl
   obtain⟨r,hr,h⟩:=fV.1 h;obtain⟨r',hr',rfl⟩:=gI.1 h;exact⟨_,rfl,fun σ2 h2=>by unfold setRow;simp only[h2,ho,hl,if_true,hr,zy,hr',xu]⟩
  ·cases h
 ·cases h
theorem Ta{i:fQ}{σ σ':ag}{τ:Tm}{v:AV}{b:Nat}(hb:xf τ i=some b)(h:plain σ τ i.op=some (v,σ')) :
  (σ'=σ∨∃ob,σ'=σ.set b ob)∧∀σ2:ag,σ2[b]?=σ[b]? → plain σ2 τ i.op=some (v,σ2)∧σ'=σ∨∃ob,σ'=σ.set b ob∧plain σ2 τ i.op=some (v,σ2.set b ob):=by
 obtain⟨d,op,g⟩:=i;cases op<;>simp only[xf,reduceCtorEq]at hb
 case store s a x=>
  split at hb
  ·rename_i b' n j o ha
   split at hb
   ·rename_i hn
    simp only[bI]at hb;subst hb;simp only[plain,gI,qX]at h;obtain⟨σ1,hs,rfl,rfl⟩:=h;simp only[eM,ha]at hs;split at hs
    ·rename_i cs hcs
     split at hs
     ·rename_i hl
      have he:=fun σ:ag=>Sz (σ:=σ) (T8 hn hcs)
      rw[he]at hs;obtain⟨ob,rfl,h2⟩:=aes hs;refine⟨.inr ⟨ob,rfl⟩,fun σ2 hσ=>.inr ⟨ob,rfl,?_⟩⟩
      have e2:eM σ2 s (a.val τ) (x.val τ)=some (σ2.set b' ob):=by
       simp only[eM,ha,hcs,hl,if_true,he];exact h2 σ2 hσ
      simp only[plain,e2];rfl
     ·cases hs
    ·cases hs
   ·cases hb
  ·cases hb
 case au es x y=>
  split at hb
  ·rename_i b' n hx
   simp only[bI]at hb;subst hb;simp only[plain,gI,qX]at h;obtain⟨u,hu,rfl,rfl⟩:=h;refine⟨.inl rfl,fun σ2 hσ=>.inl ⟨?_,rfl⟩⟩
   have e2:quiet σ2 τ (.au es x y)=some u:=by
    rw[←hu];simp only[quiet,hx,RW,hσ];rfl
   simp only[plain,e2];rfl
  ·cases hb
theorem V6{τ:Tm}{i:fQ}{b:Nat}(h:xf τ i=some b):i.op.ek=false:=by
 obtain⟨d,op,g⟩:=i;cases op<;>first|rfl|(simp[xf]at h)
theorem Te{τ:Tm}{i:fQ}(h:eR τ i=true):i.op.ek=false:=by
 obtain⟨d,op,g⟩:=i;cases op<;>first|rfl|(simp[eR]at h)
theorem aiW{x y:fQ}{τ:Tm}{σ σ1 σ2:ag}{vx vy:AV}(hx:Zu p cq τ σ x.op vx σ1)(hy:Zu p cq τ σ1 y.op vy σ2)(hk:jO τ x y=true):∃σ1',Zu p cq τ σ y.op vy σ1'∧Zu p cq τ σ1' x.op vx σ2:=by
 unfold jO at hk;simp only[QN]at hk;rcases hk with(hk|hk)|hk
 ·have hc:=Te hk
  obtain⟨rfl,h⟩:=Px hk ((dw hc).1 hx);exact⟨σ2,hy,(dw hc).2 (h σ2)⟩
 ·have hc:=Te hk
  obtain⟨rfl,h⟩:=Px hk ((dw hc).1 hy);exact⟨σ,(dw hc).2 (h σ),hx⟩
 ·split at hk
  ·rename_i b b' h1 h2
   have hne:b≠b':=by simpa using hk
   have c1:=V6 h1;have c2:=V6 h2;have p1:=(dw (p:=p) (cq:=cq) c1).1 hx;have p2:=(dw (p:=p) (cq:=cq) c2).1 hy;obtain⟨k1,k2⟩:=Ta h1 p1;obtain⟨k3,k4⟩:=Ta h2 p2
   have e1:σ1[b']?=σ[b']? := by
    rcases k1 with rfl|⟨ob,rfl⟩
    ·rfl
    ·exact Tz hne
   rcases k4 σ e1.symm with⟨q1,rfl⟩|⟨ob,rfl,q1⟩
   ·exact⟨σ,(dw c2).2 q1,hx⟩
   ·refine⟨σ.set b' ob,(dw c2).2 q1,(dw c1).2 ?_⟩
    have e2:(σ.set b' ob)[b]?=σ[b]? := Tz (fun h=>hne h.symm)
    rcases k2 _ e2 with⟨q2,rfl⟩|⟨ob2,rfl,q2⟩
    ·exact q2
    ·rw[q2,List.set_comm _ _ hne]
  ·cases hk
section
variable {τ τ':Tm}
theorem val_congr{x:O}(h:∀t∈x.reads,τ.get t=τ'.get t):x.val τ=x.val τ':=by
 cases x with
 |t n=>exact h n (by simp[O.reads])
 |c v=>rfl
theorem zx{xs:List O}(h:∀t∈xs.flatMap O.reads,τ.get t=τ'.get t):xs.map (·.val τ)=xs.map (·.val τ') :=
 ab6 fun x hx=>val_congr fun t ht=>h t (Jp.2 ⟨x,hx,ht⟩)
theorem BA{x:Option O}(h:∀t∈Bz x,τ.get t=τ'.get t):x.map (O.val τ)=x.map (O.val τ'):=by
 cases x with
 |none=>rfl
 |some x=>simp only[xu,val_congr (x:=x) h]
theorem Ll{β:Type}{ps:List (Nat×Nat×O)}(h:∀t∈ps.flatMap fun x=>x.2.2.reads,τ.get t=τ'.get t)(f:Nat×Nat×O→AV→β):ps.map (fun x=>f x (x.2.2.val τ))=ps.map (fun x=>f x (x.2.2.val τ')) :=
 ab6 fun x hx=>by rw[val_congr fun t ht=>h t (Jp.2 ⟨x,hx,ht⟩)]
theorem ahv{σ σ':ag}{op:mI}{v:AV}(h:∀t∈op.reads,τ.get t=τ'.get t)(hf:Zu p cq τ σ op v σ'):Zu p cq τ' σ op v σ':=by
 cases op
 case dV f as=>
  have e:=zx (xs:=as) h;have hf':kr p cq f (as.map (·.val τ)) σ v σ':=hf;rw[e]at hf';exact hf'
 case FF f as=>
  have e:=zx (xs:=as) h;have hf':EV p cq f (as.map (·.val τ)) σ v σ':=hf;rw[e]at hf';exact hf'
 case qT x as=>
  have e1:=val_congr (x:=x) fun t ht=>h t (Jo _ ht)
  have e2:=zx (xs:=as) fun t ht=>h t (aa3 _ ht)
  have hf':EW p cq (x.val τ) (as.map (·.val τ)) σ v σ':=hf;rw[e1,e2]at hf';exact hf'
 all_goals
  rw[dw rfl]at hf ⊢;rw[←hf]
  first
   |rfl
   |(rename_i x;simp only[plain,quiet,val_congr (x:=x) h];done)
   |(rename_i x _;simp only[plain,quiet,val_congr (x:=x) h];done)
   |(rename_i x _ _;simp only[plain,quiet,val_congr (x:=x) h];done)
   |(rename_i x y;simp only[plain,quiet,val_congr (x:=x) (fun t ht=>h t (Jo _ ht)),val_congr (x:=y) (fun t ht=>h t (aa3 _ ht))];done)
   |(rename_i x y _;simp only[plain,quiet,val_congr (x:=x) (fun t ht=>h t (Jo _ ht)),val_congr (x:=y) (fun t ht=>h t (aa3 _ ht))];done)
   |(rename_i x y z;simp only[plain,quiet,val_congr (x:=x) (fun t ht=>h t (Jo _ (Jo _ ht))),val_congr (x:=y) (fun t ht=>h t (Jo _ (aa3 _ ht))),val_congr (x:=z) (fun t ht=>h t (aa3 _ ht))];done)
   |(rename_i x lo hi;simp only[plain,quiet,val_congr (x:=x) (fun t ht=>h t (Jo _ (Jo _ ht))),BA (x:=lo) (fun t ht=>h t (Jo _ (aa3 _ ht))),BA (x:=hi) (fun t ht=>h t (aa3 _ ht))];done)
   |(rename_i x lo hi mx;simp only[plain,quiet,val_congr (x:=x) (fun t ht=>h t (Jo _ (Jo _ (Jo _ ht)))),BA (x:=lo) (fun t ht=>h t (Jo _ (Jo _ (aa3 _ ht)))),BA (x:=hi) (fun t ht=>h t (Jo _ (aa3 _ ht))),BA (x:=mx) (fun t ht=>h t (aa3 _ ht))];done)
   |(rename_i xs;simp only[plain,quiet];rw[←zx (xs:=xs) h];done)
   |(rename_i xs;simp only[plain,quiet];rw[show xs.map (O.val τ')=xs.map (O.val τ)from(zx (xs:=xs) h).symm];done)
   |(rename_i ps;simp only[plain,quiet];rw[←Ll (ps:=ps) h (fun x v=>(x.1,x.2.1,v))];done)
   |(rename_i es z n ps;simp only[plain];rw[←Ll (ps:=ps) h (fun x v=>(x.1*es,x.2.1,v))];done)
end
def GN(τ:Tm)(d:Option Nat)(v:AV):Tm :=
 match d with
 |none=>τ
 |some d=>dX τ d v
theorem MT{st st':St}{d:Option Nat}{v:AV}:st.put d v=some st'↔(∀k,d=some k→k<st.nt)∧st'={ st with τ:=GN st.τ d v }:=by
 cases d with
 |none=>
  simp only[St.put,GN,bI,reduceCtorEq,false_implies,implies_true,true_and];exact⟨fun h=>h.symm,fun h=>h.symm⟩
 |some d=>
  simp only[St.put,GN,bI,forall_eq'];split
  ·rename_i h;simp[h,eq_comm]
  ·rename_i h;simp[h]
theorem Tq{τ:Tm}{d d':Option Nat}{v v':AV}(h:∀k,d'=some k→d≠some k):GN (GN τ d v) d' v'=GN (GN τ d' v') d v:=by
 cases d with
 |none=>rfl
 |some a=>
  cases d' with
  |none=>rfl
  |some b=>
   have hne:a≠b:=fun hx=>h b rfl (by rw[hx])
   simp only[GN,dX]
   congr 1
   funext t
   by_cases h1:a=t<;>by_cases h2:b=t<;>simp[h1,h2]
   exact absurd (h1.trans h2.symm) hne
theorem zw{τ:Tm}{d:Option Nat}{v:AV}{t:Nat}(h:∀k,d=some k→k≠t):(GN τ d v).get t=τ.get t:=by
 cases d with
 |none=>rfl
 |some d=>simp[GN,dX,h d rfl]
theorem Vy{τ τ':Tm}{g:Option (Nat×Bool)}(h:∀t w,g=some (t,w)→τ.get t=τ'.get t):ig τ g=ig τ' g:=by
 cases g with
 |none=>rfl
 |some tw=>simp only[ig,h tw.1 tw.2 rfl]
def Gc(p:Program)(cq:FuncId→Bool)(τ:Tm)(σ:ag)(i:fQ)(v:AV)(σ':ag):Prop :=
 (ig τ i.guard=some true∧Zu p cq τ σ i.op v σ')∨(ig τ i.guard=some false∧v=.p (.jC [])∧σ'=σ)
theorem fA{i:fQ}{st st':St}:iT p cq i st st'↔∃v σ',Gc p cq st.τ st.σ i v σ'∧(∀k,i.dst=some k→k<st.nt)∧st'={ st with τ:=GN st.τ i.dst v,σ:=σ' }:=by
 constructor
 ·rintro⟨w,hw,⟨rfl,v,σ',hf,hp⟩|⟨rfl,hp⟩⟩
  ·obtain⟨h1,h2⟩:=MT.1 hp
   exact⟨v,σ',.inl ⟨hw,hf⟩,h1,h2⟩
  ·obtain⟨h1,h2⟩:=MT.1 hp
   exact⟨_,st.σ,.inr ⟨hw,rfl,rfl⟩,h1,h2⟩
 ·rintro⟨v,σ',⟨hw,hf⟩|⟨hw,rfl,rfl⟩,h1,h2⟩
  ·exact⟨true,hw,.inl ⟨rfl,v,σ',hf,MT.2 ⟨h1,h2⟩⟩⟩
  ·exact⟨false,hw,.inr ⟨rfl,MT.2 ⟨h1,h2⟩⟩⟩
theorem Cf{τ τ':Tm}{σ σ':ag}{i:fQ}{v:AV}(h:∀t∈i.looks,τ.get t=τ'.get t)(hd:Gc p cq τ σ i v σ'):Gc p cq τ' σ i v σ':=by
 have hg:ig τ i.guard=ig τ' i.guard:=Vy fun t w hgw=>h t (by simp[fQ.looks,hgw])
 rcases hd with⟨hw,hf⟩|⟨hw,h1,h2⟩
 ·exact .inl ⟨by rw[←hg];exact hw,ahv (fun t ht=>h t (by simp[fQ.looks,ht])) hf⟩
 ·exact .inr ⟨by rw[←hg];exact hw,h1,h2⟩
theorem Uf{x y:fQ}{τ:Tm}{σ σ1 σ2:ag}{vx vy:AV}(hx:Gc p cq τ σ x vx σ1)(hy:Gc p cq τ σ1 y vy σ2)(hk:HV (x.op.kind cq) (y.op.kind cq)=true):∃σ1',Gc p cq τ σ y vy σ1'∧Gc p cq τ σ1' x vx σ2:=by
 rcases hx with⟨wx,fx⟩|⟨wx,rfl,rfl⟩
 ·rcases hy with⟨wy,fy⟩|⟨wy,rfl,rfl⟩
  ·obtain⟨σ1',h1,h2⟩:=amE fx fy hk
   exact⟨σ1',.inl ⟨wy,h1⟩,.inl ⟨wx,h2⟩⟩
  ·exact⟨σ,.inr ⟨wy,rfl,rfl⟩,.inl ⟨wx,fx⟩⟩
 ·exact⟨σ2,hy,.inr ⟨wx,rfl,rfl⟩⟩
theorem swap{x y:fQ}{st s1 s2:St}(hx:iT p cq x st s1)(hy:iT p cq y s1 s2)(hi:indep cq x y=true):∃s1',iT p cq y st s1'∧iT p cq x s1' s2:=by
 simp only[indep,ud]at hi;obtain⟨⟨i1,i2⟩,i3⟩:=hi;have d1:∀k,x.dst=some k→k∉y.looks:=fun k hk=>by rw[hk]at i1;simpa using i1
 have d2:∀k,y.dst=some k→k∉x.looks∧x.dst≠some k:=fun k hk=>by rw[hk]at i2;simpa using i2
 obtain⟨vx,σ1,gx,bx,rfl⟩:=fA.1 hx;obtain⟨vy,σ2,gy,by',rfl⟩:=fA.1 hy;have hy':Gc p cq st.τ σ1 y vy σ2:=Cf (fun t ht=>zw fun k hk hx=>d1 k hk (hx ▸ ht)) gy
 obtain⟨σ1',h1,h2⟩:=Uf gx hy' i3;refine⟨_,fA.2 ⟨vy,σ1',h1,by',rfl⟩,fA.2 ⟨vx,σ2,?_,bx,?_⟩⟩
 ·exact Cf (fun t ht=>(zw fun k hk hx=>(d2 k hk).1 (hx ▸ ht)).symm) h2
 ·simp only[Tq (fun k hk=>(d2 k hk).2)]
theorem Rf{x y:fQ}{τ:Tm}{σ σ1 σ2:ag}{vx vy:AV}(hx:Gc p cq τ σ x vx σ1)(hy:Gc p cq τ σ1 y vy σ2)(hk:jO τ x y=true):∃σ1',Gc p cq τ σ y vy σ1'∧Gc p cq τ σ1' x vx σ2:=by
 rcases hx with⟨wx,fx⟩|⟨wx,rfl,rfl⟩
 ·rcases hy with⟨wy,fy⟩|⟨wy,rfl,rfl⟩
  ·obtain⟨σ1',h1,h2⟩:=aiW fx fy hk
   exact⟨σ1',.inl ⟨wy,h1⟩,.inl ⟨wx,h2⟩⟩
  ·exact⟨σ,.inr ⟨wy,rfl,rfl⟩,.inl ⟨wx,fx⟩⟩
 ·exact⟨σ2,hy,.inr ⟨wx,rfl,rfl⟩⟩
theorem auD{x y:fQ}{st s1 s2:St}(hx:iT p cq x st s1)(hy:iT p cq y s1 s2)(hi:Cq x y=true)(hk:jO st.τ x y=true):∃s1',iT p cq y st s1'∧iT p cq x s1' s2:=by
 simp only[Cq,ud]at hi;obtain⟨i1,i2⟩:=hi;have d1:∀k,x.dst=some k→k∉y.looks:=fun k hk=>by rw[hk]at i1;simpa using i1
 have d2:∀k,y.dst=some k→k∉x.looks∧x.dst≠some k:=fun k hk=>by rw[hk]at i2;simpa using i2
 obtain⟨vx,σ1,gx,bx,rfl⟩:=fA.1 hx;obtain⟨vy,σ2,gy,by',rfl⟩:=fA.1 hy;have hy':Gc p cq st.τ σ1 y vy σ2:=Cf (fun t ht=>zw fun k hk hx=>d1 k hk (hx ▸ ht)) gy
 obtain⟨σ1',h1,h2⟩:=Rf gx hy' hk;refine⟨_,fA.2 ⟨vy,σ1',h1,by',rfl⟩,fA.2 ⟨vx,σ2,?_,bx,?_⟩⟩
 ·exact Cf (fun t ht=>(zw fun k hk hx=>(d2 k hk).1 (hx ▸ ht)).symm) h2
 ·simp only[Tq (fun k hk=>(d2 k hk).2)]
theorem Er{τ τ':Tm}{o:fQ}(h:∀t∈o.looks,τ.get t=τ'.get t):eR τ o=eR τ' o:=by
 obtain⟨d,op,g⟩:=o;have v:∀x:O,(∀t∈x.reads,t∈op.reads)→x.val τ=x.val τ':=fun x hx=>val_congr fun t ht=>h t (by simp[fQ.looks,hx t ht])
 cases op
 case load s g' x=>simp only[eR,v x (fun t ht=>ht)]
 case au es x i=>simp only[eR,v x (fun t ht=>Jo _ ht)]
 case bJ x=>simp only[eR,v x (fun t ht=>ht)]
 case AX x=>simp only[eR,v x (fun t ht=>ht)]
 case b2s x=>simp only[eR,v x (fun t ht=>ht)]
 case lookup kl z x k ok=>simp only[eR,v x (fun t ht=>Jo _ ht)]
 case MH es x lo hi mx=>simp only[eR,v x (fun t ht=>Jo _ (Jo _ (Jo _ ht)))]
 all_goals rfl
theorem Kq{τ τ':Tm}{o:fQ}(h:∀t∈o.looks,τ.get t=τ'.get t):xf τ o=xf τ' o:=by
 obtain⟨d,op,g⟩:=o;have v:∀x:O,(∀t∈x.reads,t∈op.reads)→x.val τ=x.val τ':=fun x hx=>val_congr fun t ht=>h t (by simp[fQ.looks,hx t ht])
 cases op
 case store s a x=>simp only[xf,v a (fun t ht=>Jo _ ht),v x (fun t ht=>aa3 _ ht)]
 case au es x i=>simp only[xf,v x (fun t ht=>Jo _ ht)]
 all_goals rfl
theorem QU{τ τ':Tm}{x y:fQ}(hx:∀t∈x.looks,τ.get t=τ'.get t)(hy:∀t∈y.looks,τ.get t=τ'.get t):jO τ x y=jO τ' x y:=by
 unfold jO;rw[Er hx,Er hy,Kq hx,Kq hy]
theorem Qc{t:Nat}:∀{l:List fQ} {st st':St},xz p cq l st st'→(∀z∈l,∀d,z.dst=some d→d≠t)→st.τ.get t=st'.τ.get t
 | [],st,st',h,_=>by cases h;rfl
 |z::l,st,st',h,hd=>by
  cases h with
  |cons _ _ _ s1 _ hf hr=>
   rw[←Qc hr fun x hx=>hd x (by simp[hx])]
   obtain⟨v,σ',_,_,rfl⟩:=fA.1 hf;exact(zw fun k hk=>hd z (by simp) k hk).symm
inductive Ssa (cq:FuncId→Bool):List fQ→Prop
 |nil:Ssa cq []
 |cons (x:fQ) (l:List fQ) (h:x.op.kind cq≠.q0→∀z∈x::l,∀d,z.dst=some d→d∉x.looks) (hl:Ssa cq l):Ssa cq (x::l)
theorem Ssa.sub{l m:List fQ}(h:Ssa cq m)(hs:List.Sublist l m):Ssa cq l:=by
 induction hs with
 |slnil=>exact .nil
 |cons a _ ih=>cases h with|cons _ _ _ hl=>exact ih hl
 |cons_cons a hs ih=>cases h with|cons _ _ h hl=>exact .cons _ _ (fun hk z hz=>h hk z (by rcases pn.1 hz with rfl|hz;simp;exact abp _ (hs.subset hz))) (ih hl)
theorem front{y:fQ}{τf:Tm}:∀{pre post:List fQ} {st st':St},xz p cq (pre++y::post) st st'→st'.τ=τf→(∀x∈pre,indep cq x y=true∨(Ssa cq (pre++y::post)∧Cq x y=true∧jO τf x y=true))→∃s1,iT p cq y st s1∧xz p cq (pre++post) s1 st'
 | [],post,st,st',h,_,_=>by
  cases h with
  |cons _ _ _ s1 _ hf hr=>exact⟨s1,hf,hr⟩
 |x::pre,post,st,st',h,hτ,hi=>by
  have h0:=h;cases h with
  |cons _ _ _ s1 _ hf hr=>
   obtain⟨s2,h1,h2⟩:=front hr hτ (fun z hz=>(hi z (by simp[hz])).imp id fun⟨a,b,c⟩=>⟨by cases a with|cons _ _ _ hl=>exact hl,b,c⟩)
   by_cases hin:indep cq x y=true
   ·obtain⟨s1',h3,h4⟩:=swap hf h1 hin
    exact⟨s1',h3,.cons _ _ _ s2 _ h4 h2⟩
   rcases hi x (by simp)with hx|⟨hs,hx,ha⟩
   ·exact absurd hx hin
   ·have hkinds:HV (x.op.kind cq) (y.op.kind cq)=false:=by
     have e:indep cq x y=(Cq x y && HV (x.op.kind cq) (y.op.kind cq)):=rfl;rw[e,hx,VG]at hin;simpa using hin
    have hkx:x.op.kind cq≠.q0:=fun e=>by rw[e]at hkinds;cases hkinds
    have hky:y.op.kind cq≠.q0:=fun e=>by rw[e]at hkinds;cases h:x.op.kind cq<;>rw[h]at hkinds<;>cases hkinds
    have hxl:∀t∈x.looks,st.τ.get t=st'.τ.get t:=fun t ht=>Qc h0 fun z hz d hd he=>by
     cases hs with
     |cons _ _ h _=>exact h hkx z hz d hd (he ▸ ht)
    have hyl:∀t∈y.looks,s1.τ.get t=st'.τ.get t:=by
     intro t ht
     have e1:s1.τ.get t=s2.τ.get t:=by
      obtain⟨v,σ',_,_,rfl⟩:=fA.1 h1;refine(zw fun k hk he=>?_).symm
      have:∀(l:List fQ),Ssa cq (l++y::post)→∀d,y.dst=some d→d∉y.looks:=by
       intro l
       induction l with
       |nil=>intro hs d hd;cases hs with|cons _ _ h _=>exact h hky y (by simp) d hd
       |cons a l ih=>intro hs;cases hs with|cons _ _ _ hl=>exact ih hl
      exact this (x::pre) hs k hk (he ▸ ht)
     rw[e1];refine Qc h2 fun z hz d hd he=>?_
     rcases BZ.1 hz with hz|hz
     ·have hzi:∀k,z.dst=some k→k∉y.looks:=by
       rcases hi z (by simp[hz])with h|⟨_,h,_⟩
       ·simp only[indep,ud]at h
        intro k hk;have:=h.1.1;rw[hk]at this;simpa using this
       ·simp only[Cq,ud]at h
        intro k hk;have:=h.1;rw[hk]at this;simpa using this
      exact hzi d hd (he ▸ ht)
     ·have:∀(l:List fQ),Ssa cq (l++y::post)→∀z∈post,∀d,z.dst=some d→d∉y.looks:=by
       intro l
       induction l with
       |nil=>intro hs z hz d hd;cases hs with|cons _ _ h _=>exact h hky z (by simp[hz]) d hd
       |cons a l ih=>intro hs;cases hs with|cons _ _ _ hl=>exact ih hl
      exact this (x::pre) hs z hz d hd (he ▸ ht)
    have hx1:∀t∈y.looks,st.τ.get t=s1.τ.get t:=by
     intro t ht;obtain⟨v,σ',_,_,rfl⟩:=fA.1 hf;refine(zw fun k hk he=>?_).symm
     simp only[Cq,ud]at hx;have:=hx.1;rw[hk]at this;have:k∉y.looks:=by simpa using this
     exact this (he ▸ ht)
    have hap:jO st.τ x y=true:=by
     rw[QU (τ':=τf) (fun t ht=>by rw[hxl t ht,hτ]) (fun t ht=>by rw[hx1 t ht,hyl t ht,hτ])]
     exact ha
    obtain⟨s1',h3,h4⟩:=auD hf h1 hx hap;exact⟨s1',h3,.cons _ _ _ s2 _ h4 h2⟩
theorem yU:∀(ops:List Oper) (acc:List (List Nat)) (i:Nat),i<acc.length→(fX ops acc)[i]?=acc[i]?
 | [],acc,i,_=>rfl
 |o::r,acc,i,h=>by
  rw[fX,yU r _ i (by simp;omega),AN h]
theorem Gj:∀(ops:List Oper) (acc:List (List Nat)) (j:Nat) (o:Oper),ops[j]?=some o→(∀e∈o.after,Region.binds .any e=true→e.on<acc.length+j) →
  ∀x∈(fX ops acc).getD (acc.length+j) [],(∃e∈o.after,Region.binds .any e=true∧e.on=x)∨∃e∈o.after,Region.binds .any e=true∧x∈(fX ops acc).getD e.on []
 | [],acc,j,o,h,_=>by simp at h
 |o0::r,acc,0,o,h,hlt=>by
  intro x hx;simp only[QS,bI]at h;subst h
  have hb:∀i,i<acc.length→(fX (o0::r) acc).getD i []=acc.getD i []:=fun i hi=>by
   simp only[aaU,yU (o0::r) acc i hi]
  have h0:(fX (o0::r) acc)[acc.length]?=some ((o0.after.toList.filterMap fun e=>if Region.binds .any e then some e.on else none)++(o0.after.toList.filterMap fun e=>if Region.binds .any e then some e.on else none).flatMap fun j=>acc.getD j []).eraseDups:=by
   rw[fX,yU r _ acc.length (by simp)]
   simp
  simp only[acg,aaU,h0,VE]at hx;rw[List.mem_eraseDups,BZ]at hx
  have dm:∀y,y∈(o0.after.toList.filterMap fun e=>if Region.binds .any e then some e.on else none)→∃e∈o0.after,Region.binds .any e=true∧e.on=y:=by
   intro y hy;rw[List.mem_filterMap]at hy;obtain⟨e,he,hy⟩:=hy;split at hy
   ·rename_i hbd
    simp only[bI]at hy;exact⟨e,by simpa using he,hbd,hy⟩
   ·cases hy
  rcases hx with hx|hx
  ·exact .inl (dm x hx)
  ·rw[Jp]at hx
   obtain⟨j,hj,hx⟩:=hx;obtain⟨e,he,hbd,rfl⟩:=dm j hj;refine .inr ⟨e,he,hbd,?_⟩;rw[hb _ (by simpa using hlt e he hbd)]
   simpa[aaU]using hx
 |o0::r,acc,j+1,o,h,hlt=>by
  intro x hx;rw[fX]at hx ⊢;refine Gj r _ j o (by simpa using h) (fun e he hb=>?_) x ?_
  ·have:=hlt e he hb
   simp
   omega
  ·rw[jE,ab2,show acc.length+1+j=acc.length+(j+1) by omega]
   exact hx
def rem(n:Nat)(listed:Array Bool):List Nat:=(List.range n).filter fun i=>!listed.getD i true
theorem uq{n i:Nat}{listed:Array Bool}:i∈rem n listed↔i<n∧listed.getD i true=false:=by
 simp[rem,List.mem_filter,abF]
theorem Th{n i:Nat}{listed:Array Bool}(hsz:listed.size=n)(hi:i∈rem n listed):∃pre post,rem n listed=pre++i::post∧rem n (listed.setIfInBounds i true)=pre++post∧∀x∈pre,x<i:=by
 obtain⟨h1,h2⟩:=uq.1 hi
 have hr:List.range n=List.range i++i::List.range' (i+1) (n-i-1):=by
  obtain⟨m,rfl⟩:∃m,n=i+(m+1):=⟨n-i-1,by omega⟩
  rw[List.range_eq_range',List.range_eq_range',←List.range'_append_1,tn,ab9,show i+(m+1)-i-1=m by omega]
 have other:∀x,x≠i→(listed.setIfInBounds i true).getD x true=listed.getD x true:=fun x hx=>getD_set_ne true (fun h=>hx h.symm)
 refine⟨(List.range i).filter fun x=>!listed.getD x true,(List.range' (i+1) (n-i-1)).filter fun x=>!listed.getD x true,?_,?_,?_⟩
 ·unfold rem
  rw[hr,List.filter_append,ab7,h2];simp
 ·unfold rem
  rw[hr,List.filter_append,ab7]
  have hself:(listed.setIfInBounds i true).getD i true=true:=by
   have:i<listed.size:=by omega
   simp[Array.getD,this]
  rw[hself];simp only[ab1,kS,if_false]
  congr 1
  ·exact List.filter_congr fun x hx=>by rw[other x (by rw[abF]at hx;omega)]
  ·exact List.filter_congr fun x hx=>by rw[other x (by rw[List.mem_range'_1]at hx;omega)]
 ·intro x hx
  rw[List.mem_filter,abF]at hx;exact hx.1
theorem Kb:∀l:List fQ,(List.range l.length).filterMap (l[·]?)=l
 | []=>rfl
 |a::l=>by
  rw[lH,List.range_succ_eq_map,abW];simp only[QS,List.filterMap_map]
  congr 1
  exact Kb l
theorem ah5(is:List fQ)(r:List Nat)(h:List.Sublist r (List.range is.length)):List.Sublist (r.filterMap (is[·]?)) is:=by
 have:=h.filterMap (is[·]?)
 rwa [Kb]at this
theorem an0{is:List fQ}{n:Nat}{listed:Array Bool}(h:is.length=n):List.Sublist (rem n listed) (List.range is.length):=by
 unfold rem;rw[h];exact List.filter_sublist
theorem agE{τf:Tm}{ops:Array Oper}{is:List fQ}(hl:is.length=ops.size)(hi:∀(j:Nat) (o:Oper) (i:fQ),ops[j]?=some o→is[j]?=some i→IOk p ops o i)
  (H1:∀(j:Nat) (o:Oper),ops[j]?=some o→∀e∈o.after,Region.binds .any e=true→e.on<j) (H2:∀(i j:Nat) (x y:fQ),is[i]?=some x→is[j]?=some y→i<j→i∈(fX ops.toList []).getD j []∨indep cq x y=true∨(Ssa cq is∧Cq x y=true∧jO τf x y=true))
  {st':St} (hτ:st'.τ=τf) {base:Nat} {F:Fence} {Q:Exit→Act→World→Prop}:∀(fuel:Nat) (listed:Array Bool) (st:St) (own:List Loc) (ok:Nat→Prop) (w:World) (a:Act),listed.size=ops.size→(∀j,listed.getD j false=true→∀x∈(fX ops.toList []).getD j [],listed.getD x false=true) →
   (rem ops.size listed).length≤fuel→xz p cq ((rem ops.size listed).filterMap (is[·]?)) st st'→B8 p cq ⟨own,st.σ,ok,w⟩ st base F a →
   (∀(own':List Loc) (ok':Nat→Prop) (w':World) (a':Act),B8 p cq ⟨own',st'.σ,ok',w'⟩ st' base F a'→Step ⟨own,st.σ,ok,w⟩ ⟨own',st'.σ,ok',w'⟩→Q .normal a' w')→wpAnyIn F 0 p .any ops Q fuel listed a w:=by
 have fin:∀(listed:Array Bool) (st:St) (own:List Loc) (ok:Nat→Prop) (w:World) (a:Act),Region.ready .any ops listed=[]→listed.size=ops.size→xz p cq ((rem ops.size listed).filterMap (is[·]?)) st st'→B8 p cq ⟨own,st.σ,ok,w⟩ st base F a →
   (∀(own':List Loc) (ok':Nat→Prop) (w':World) (a':Act),B8 p cq ⟨own',st'.σ,ok',w'⟩ st' base F a'→Step ⟨own,st.σ,ok,w⟩ ⟨own',st'.σ,ok',w'⟩→Q .normal a' w')→Q .normal a w:=by
  intro listed st own ok w a hr hsz hR hN hQ
  have hnil:rem ops.size listed=[]:=by
   cases hrem:rem ops.size listed with
   |nil=>rfl
   |cons i0 r=>
    exfalso
    obtain⟨i,hmem,hmin⟩:∃i,i∈rem ops.size listed∧∀x∈rem ops.size listed,i≤x:=by
     have:=least (P:=fun i=>i∈rem ops.size listed) ⟨i0,by rw[hrem];simp⟩
     exact this
    obtain⟨h1,h2⟩:=uq.1 hmem
    have hready:i∈Region.ready .any ops listed:=by
     rw[mem_ready];refine⟨h2,ops[i],by simp[h1],fun e he hb=>?_⟩
     have hlt:=H1 i ops[i] (by simp[h1]) e he hb
     cases hg:listed.getD e.on false with
     |true=>rfl
     |false=>
      have hsz':e.on<listed.size:=by omega
      have:e.on∈rem ops.size listed:=uq.2 ⟨by omega,by simp[Array.getD,hsz']at hg ⊢;exact hg⟩
      have:=hmin _ this;omega
    rw[hr]at hready;cases hready
  rw[hnil]at hR;cases hR;exact hQ own ok w a hN (Step.refl _)
 intro fuel
 induction fuel with
 |zero=>
  intro listed st own ok w a hsz hcl hlen hR hN hQ;have hnil:rem ops.size listed=[]:=Jq.1 (by omega)
  have hready:Region.ready .any ops listed=[]:=by
   cases hr:Region.ready .any ops listed with
   |nil=>rfl
   |cons i r=>
    exfalso;have hm:i∈Region.ready .any ops listed:=by rw[hr];simp
    rw[mem_ready]at hm;obtain⟨h0,o,ho,_⟩:=hm;have:i∈rem ops.size listed:=uq.2 ⟨(VJ.1 ho).1,h0⟩;rw[hnil]at this;cases this
  exact⟨hready,fin listed st own ok w a hready hsz hR hN hQ⟩
 |succ fuel ih=>
  intro listed st own ok w a hsz hcl hlen hR hN hQ;refine⟨fun hr=>fin listed st own ok w a hr hsz hR hN hQ,fun i hready=>?_⟩
  rw[mem_ready]at hready;obtain⟨h0,o,ho,hall⟩:=hready;have hin:i<ops.size:=(VJ.1 ho).1;have hmem:i∈rem ops.size listed:=uq.2 ⟨hin,h0⟩;obtain⟨pre,post,e1,e2,e3⟩:=Th hsz hmem;have hil:i<is.length:=by omega
  have hb:∀x∈(fX ops.toList []).getD i [],listed.getD x false=true:=by
   intro x hx;have:=Gj ops.toList [] i o (by simpa using ho) (fun e he hb=>by simpa using H1 i o ho e he hb) x (by simpa using hx)
   rcases this with⟨e,he,hbd,rfl⟩|⟨e,he,hbd,hx⟩
   ·exact hall e he hbd
   ·exact hcl e.on (hall e he hbd) x hx
  rw[e1,abI,abW]at hR;simp only[oq hil]at hR
  have hsub:List.Sublist (pre.filterMap (is[·]?)++is[i]::post.filterMap (is[·]?)) is:=by
   have:=ah5 is (rem ops.size listed) (an0 hl);rw[e1,abI,abW]at this;simp only[oq hil]at this;exact this
  obtain⟨s1,hf,hR'⟩:=front hR hτ (fun x hx=>by
   rw[List.mem_filterMap]at hx;obtain⟨j,hj,hx⟩:=hx;rcases H2 j i x is[i] hx (oq hil) (e3 j hj)with h|h
   ·have h1:=hb j h
    have h2:listed.getD j true=false:=(uq.1 (by rw[e1];simp[hj]:j∈rem ops.size listed)).2
    have hjs:j<listed.size:=by have:=e3 j hj;omega
    simp[Array.getD,hjs]at h1 h2;rw[h1]at h2;cases h2
   ·exact h.imp id fun⟨a,b,c⟩=>⟨a.sub hsub,b,c⟩)
  refine MY ho (hi i o is[i] ho (oq hil)) hf hN (fun own1 ok1 w1 a1 hN1 st1=>?_)
  refine ih (listed.setIfInBounds i true) s1 own1 ok1 w1 a1 (by simpa using hsz) (fun j hj x hx=>?_) ?_ ?_ hN1 (fun own2 ok2 w2 a2 hN2 s2=>hQ own2 ok2 w2 a2 hN2 (st1.trans s2))
  ·by_cases hji:j=i
   ·subst hji
    exact getD_set_true (hb x hx)
   ·rw[getD_set_ne false (fun h=>hji h.symm)]at hj
    exact getD_set_true (hcl j hj x hx)
  ·rw[e2]
   rw[e1]at hlen;simp at hlen ⊢;omega
  ·rw[e2,abI]
   exact hR'
theorem vz:∀(z:List AV) (σ:ag),(aW z σ).2=σ++List.replicate (nd z) (.pv 0 [] false)∧(aW z σ).1.length=z.length
 | [],σ=>by simp[aW,nd]
 |c::z,σ=>by
  cases c with
  |aC=>
   obtain⟨h1,h2⟩:=vz z (σ++[.pv 0 [] false]);simp only[aW,nd,h1,lH,h2,TA,List.replicate_succ,List.singleton_append,and_self]
  |_=>
   obtain⟨h1,h2⟩:=vz z σ;simp only[aW,nd,h1,lH,h2,and_self]
theorem Eo{σ:ag}{τ:Tm}{z:List AV}{s:Nat}:plain σ τ (.alloc z s)=some (.ptr (σ.length+nd z) 1 0 0,σ++List.replicate (nd z) (.pv 0 [] false)++[mkObj s (aW z σ).1]):=by
 simp only[plain];rw[(vz z σ).1];simp only[jE,ace]
def rowP(s:Nat)(q:PV):Option (List PV) :=
 match cellsOf s (match(AV.p q)with|.agg _|.p (.agg _)=>true|_=>false) (.p q)with
 |some cs=>if cs.length=s then ae cs else none
 |none=>none
theorem E1:∀ps:List PV,ae (ps.map .p)=some ps
 | []=>rfl
 |a::r=>by simp[ae,E1 r]
theorem Ob:∀(ps:List PV) (σ:ag),aW (ps.map .p) σ=(ps.map .p,σ)
 | [],σ=>rfl
 |a::r,σ=>by simp[aW,Ob r σ]
theorem ah4{σ:ag}{b s:Nat}{cells:List AV}{ps:List PV}(hb:σ[b]?=some (mkObj s cells))(hl:cells.length=s)(hp:ps.length=s):setRow σ b 1 0 0 (ps.map .p)=some (σ.set b (.pv s [ps] false)):=by
 unfold setRow;rw[hb];unfold mkObj;cases ha:ae cells with
 |none=>
  simp only[lH,l5,if_true,QS,zy,ck,aO,hp,hl,tn,rm,List.take_zero,x9,xu,abc];rw[abZ (by omega),Zy]
  simp only[E1]
 |some qs=>
  have hq:qs.length=s:=by
   have:∀(l:List AV) (m:List PV),ae l=some m→m.length=l.length:=by
    intro l
    induction l with
    |nil=>intro m h;simp[ae]at h;subst h;rfl
    |cons a l ih=>
     intro m h;cases a<;>simp only[ae,reduceCtorEq]at h
     rename_i v;cases hl:ae l with
     |none=>rw[hl]at h;cases h
     |some m'=>rw[hl]at h;simp only[xu,bI]at h;subst h;simp[ih m' hl]
   rw[this cells qs ha,hl]
  simp only[lH,l5,if_true,QS,zy,E1,ck,hp,hq,tn,rm,List.take_zero,x9,xu,abc];rw[abZ (by omega),Zy]
theorem AI{σ:ag}{b s:Nat}{cells:List AV}{q:PV}(hb:σ[b]?=some (mkObj s cells))(hl:cells.length=s):eM σ s (.ptr b 1 0 0) (.p q)=(rowP s q).map fun row=>σ.set b (.pv s [row] false):=by
 have key:∀(cs:List AV) (ps:List PV),cs=ps.map .p→(if cs.length=s then(let (cs',σ'):=aW cs σ;setRow σ' b 1 0 0 cs')else none)=((if cs.length=s then ae cs else none):Option (List PV)).map fun row=>σ.set b (.pv s [row] false):=by
  rintro _ ps rfl
  by_cases h:(ps.map AV.p).length=s
  ·rw[if_pos h,if_pos h,Ob,E1]
   exact ah4 hb hl (by simpa using h)
  ·rw[if_neg h,if_neg h];rfl
 unfold eM rowP;cases q with
 |agg ps=>
  simp only[cellsOf,if_true];by_cases h:ps.length=s
  ·simp only[h,if_true]
   exact key _ ps rfl
  ·simp only[h,if_false];rfl
 |jC ps=>simp only[cellsOf,kS,if_false];rfl
 |int k n=>simp only[cellsOf,kS,if_false];exact key _ [_] rfl
 |bool n=>simp only[cellsOf,kS,if_false];exact key _ [_] rfl
 |str n=>simp only[cellsOf,kS,if_false];exact key _ [_] rfl
 |aM n=>simp only[cellsOf,kS,if_false];exact key _ [_] rfl
 |ptr n m=>simp only[cellsOf,kS,if_false];exact key _ [_] rfl
 |xF=>simp only[cellsOf,kS,if_false];exact key _ [_] rfl
 |fn n m=>simp only[cellsOf,kS,if_false];exact key _ [_] rfl
 |zc=>simp only[cellsOf,kS,if_false];exact key _ [_] rfl
 |H8=>simp only[cellsOf,kS,if_false];exact key _ [_] rfl
 |pmap n=>simp only[cellsOf,kS,if_false];exact key _ [_] rfl
def sw(a b c:Nat):Nat:=if c=a then b else if c=b then a else c
theorem alA{a b:Nat}(c:Nat):sw a b (sw a b c)=c:=by
 unfold sw;by_cases h1:c=a
 ·subst h1
  by_cases h2:b=c
  ·simp[h2]
  ·simp[h2]
 ·by_cases h2:c=b
  ·subst h2;simp[h1]
  ·simp[h1,h2]
theorem arC{a b c d:Nat}(h:sw a b c=sw a b d):c=d:=by rw[←alA (a:=a) (b:=b) c,h,alA]
theorem afU{a b c n:Nat}(ha:n≤a)(hb:n≤b)(hc:c<n):sw a b c=c:=by
 unfold sw;rw[if_neg (by omega),if_neg (by omega)]
theorem aeA{α:Type}(A N:List α)(x y:α)(b:Nat):(A++x::(N++[y]))[b]?=(A++y::(N++[x]))[sw A.length (A.length+1+N.length) b]? := by
 unfold sw;by_cases h1:b=A.length
 ·subst h1
  rw[if_pos rfl,Fo (rm _),abM,Fo (by omega),show A.length+1+N.length-A.length=N.length+1 by omega,aa9,Fo (rm _),abM]
  rfl
 ·rw[if_neg h1]
  by_cases h2:b=A.length+1+N.length
  ·subst h2
   rw[if_pos rfl,Fo (by omega),Fo (rm _),show A.length+1+N.length-A.length=N.length+1 by omega,aa9,Fo (rm _),abM,abM]
   rfl
  ·rw[if_neg h2]
   rcases VN b A.length with h|h
   ·rw[AN h,AN h]
   ·obtain⟨k,rfl⟩:∃k,b=A.length+(k+1):=⟨b-A.length-1,by omega⟩
    rw[Fo (by omega),Fo (by omega),show A.length+(k+1)-A.length=k+1 by omega,aa9,aa9]
    rcases VN k N.length with h|h
    ·rw[AN h,AN h]
    ·rw[aba (by simp;omega),aba (by simp;omega)]
structure Twin (d1 d2 b1 b2:Nat) (st' st2:St):Prop where
 nt:st2.nt=st'.nt
 rd:st2.rd=st'.rd
 get:∀t,t≠d1→t≠d2→st2.τ.get t=st'.τ.get t
 g1:st'.τ.get d1=.ptr b1 1 0 0
 g2:st'.τ.get d2=.ptr b2 1 0 0
 h1:st2.τ.get d1=.ptr b2 1 0 0
 h2:st2.τ.get d2=.ptr b1 1 0 0
 len:st2.σ.length=st'.σ.length
 obj:∀b,st'.σ[b]?=st2.σ[sw b1 b2 b]?
 o1:∃s r,st2.σ[b1]?=some (.pv s [r] false)
 o2:∃s r,st2.σ[b2]?=some (.pv s [r] false)
theorem NX{τ:Tm}{σ σ':ag}{i:fQ}{v:AV}(hg:i.guard=none)(hc:i.op.ek=false):Gc p cq τ σ i v σ'↔plain σ τ i.op=some (v,σ'):=by
 unfold Gc;rw[hg,dw hc];simp[ig]
theorem MV{α:Type}(A B:List α)(m x:α):(A++m::B).set A.length x=A++x::B:=by
 rw[List.set_append_right _ _ (rm _),abM,abc]
theorem arg_val{d1 d2:Nat}{v:O}(h:MZ d1 d2 v=true){τ τ':Tm}(hτ:∀t,t≠d1→t≠d2→τ.get t=τ'.get t):v.val τ=v.val τ':=by
 cases v with
 |t n=>simp only[MZ,ud,bne_iff_ne]at h;exact hτ n h.1 h.2
 |c v=>rfl
theorem apd{i1 i2 i3 i4:fQ}{st st':St}:xz p cq [i1,i2,i3,i4] st st'↔∃s1 s2 s3,iT p cq i1 st s1∧iT p cq i2 s1 s2∧iT p cq i3 s2 s3∧iT p cq i4 s3 st':=by
 constructor
 ·intro h
  cases h with|cons _ _ _ s1 _ h1 h=>cases h with|cons _ _ _ s2 _ h2 h=>cases h with|cons _ _ _ s3 _ h3 h=>cases h with|cons _ _ _ s4 _ h4 h=>cases h;exact⟨s1,s2,s3,h1,h2,h3,h4⟩
 ·rintro⟨s1,s2,s3,h1,h2,h3,h4⟩
  exact .cons _ _ _ s1 _ h1 (.cons _ _ _ s2 _ h2 (.cons _ _ _ s3 _ h3 (.cons _ _ _ _ _ h4 (.nil _))))
theorem ajJ{v:AV}(h:isP v=true):∃q,v=.p q:=by cases v<;>first|exact⟨_,rfl⟩|cases h
theorem zt{i:fQ}(hg:i.guard=none)(hc:i.op.ek=false){st st':St}:iT p cq i st st'↔∃v σ',plain st.σ st.τ i.op=some (v,σ')∧(∀k,i.dst=some k→k<st.nt)∧st'={ st with τ:=GN st.τ i.dst v,σ:=σ' }:=by
 rw[fA];constructor
 ·rintro⟨v,σ',h1,h2⟩;exact⟨v,σ',(NX hg hc).1 h1,h2⟩
 ·rintro⟨v,σ',h1,h2⟩;exact⟨v,σ',(NX hg hc).2 h1,h2⟩
theorem alG{is:List fQ}{d1 d2 k:Nat}(ht:CL is=some (d1,d2,k)){st st':St}(hv:EP st'.τ is=true)(hR:xz p cq is st st') :
  ∃i1 i2 post st2,is=i1::i2::post∧xz p cq (i2::i1::post) st st2∧Twin d1 d2 (st.σ.length+k) (st.σ.length+k+1+k) st' st2:=by
 unfold CL at ht;split at ht
 case h_2=>cases ht
 rename_i d1' z1 s1 d2' z2 s2 s3 e1 v1 s4 e2 v2;simp only[Option.ite_none_right_eq_some,ud,beq_iff_eq,bne_iff_ne,ne_eq,bI,qX]at ht;obtain⟨⟨⟨⟨⟨⟨⟨⟨⟨⟨hne,rfl⟩,rfl⟩,rfl⟩,rfl⟩,hz1⟩,hz2⟩,hz⟩,ha1⟩,ha2⟩,rfl,rfl,rfl⟩:=ht
 suffices H:∃st2,xz p cq [⟨some e2,.alloc z2 s4,none⟩,⟨some e1,.alloc z1 s3,none⟩,⟨none,.store s3 (.t e1) v1,none⟩,⟨none,.store s4 (.t e2) v2,none⟩] st st2∧Twin e1 e2 (st.σ.length+nd z1) (st.σ.length+nd z1+1+nd z1) st' st2 by
  obtain⟨st2,h1,h2⟩:=H;exact⟨_,_,_,st2,rfl,h1,h2⟩
 rw[apd]at hR;obtain⟨sa,sb,sc,h1,h2,h3,h4⟩:=hR;rw[zt rfl rfl]at h1 h2 h3 h4;obtain⟨u1,σ1,h1,b1,rfl⟩:=h1;obtain⟨u2,σ2,h2,b2,rfl⟩:=h2;obtain⟨u3,σ3,h3,b3,rfl⟩:=h3;obtain⟨u4,σ4,h4,b4,rfl⟩:=h4;simp only[Eo,bI,qX]at h1 h2;obtain⟨rfl,rfl⟩:=h1;obtain⟨rfl,rfl⟩:=h2;have b1:e1<st.nt:=b1 _ rfl;have b2':e2<st.nt:=b2 _ rfl;clear b3 b4 b2;simp only[GN]at h3 h4 hv ⊢;simp only[plain,gI,qX]at h3 h4;obtain⟨σ3',h3,_,rfl⟩:=h3;obtain⟨σ4',h4,_,rfl⟩:=h4;simp only[EP,ud]at hv;obtain⟨q1,hq1⟩:=ajJ hv.1;obtain⟨q2,hq2⟩:=ajJ hv.2;have hne':¬e2=e1:=fun h=>hne h.symm
 have g1:∀(a b:AV),(dX (dX st.τ e1 a) e2 b).get e1=a:=fun a b=>by simp[dX,hne']
 have g2:∀(a b:AV),(dX (dX st.τ e1 a) e2 b).get e2=b:=fun a b=>by simp[dX]
 have g3:∀(a b:AV),(dX (dX st.τ e2 b) e1 a).get e1=a:=fun a b=>by simp[dX]
 have g4:∀(a b:AV),(dX (dX st.τ e2 b) e1 a).get e2=b:=fun a b=>by simp[dX,hne]
 have oth:∀(a b a' b':AV) (t:Nat),t≠e1→t≠e2→(dX (dX st.τ e2 b') e1 a').get t=(dX (dX st.τ e1 a) e2 b).get t:=fun a b a' b' t h1 h2=>by simp[dX,Ne.symm h1,Ne.symm h2]
 have ov:∀(τ:Tm) (t:Nat),O.val τ (O.t t)=τ.get t:=fun _ _=>rfl
 have hc1:(aW z1 st.σ).1.length=s3:=by rw[(vz z1 st.σ).2];exact hz1
 have vv1:∀a b:AV,O.val (dX (dX st.τ e1 a) e2 b) v1=.p q1:=fun a b=>(arg_val ha1 fun t h1 h2=>by simp[dX,Ne.symm h1,Ne.symm h2]).trans hq1
 have vv2:∀a b:AV,O.val (dX (dX st.τ e1 a) e2 b) v2=.p q2:=fun a b=>(arg_val ha2 fun t h1 h2=>by simp[dX,Ne.symm h1,Ne.symm h2]).trans hq2
 clear hq1 hq2;generalize hN:List.replicate (nd z1) (Obj.pv 0 [] false)=N at *;have hN2:List.replicate (nd z2) (Obj.pv 0 [] false)=N:=by rw[←hz];exact hN
 have hNl:N.length=nd z1:=by rw[←hN];simp
 rw[hN2]at h3;generalize hc2:(aW z2 (st.σ++N++[mkObj s3 (aW z1 st.σ).1])).1=cs2 at *;have hc2':cs2.length=s4:=by rw[←hc2,(vz z2 _).2];exact hz2
 have hA:(st.σ++N).length=st.σ.length+nd z1:=by simp[hNl]
 have f1:(st.σ++N++[mkObj s3 (aW z1 st.σ).1]++N++[mkObj s4 cs2])=(st.σ++N)++mkObj s3 (aW z1 st.σ).1::(N++[mkObj s4 cs2]):=by simp
 simp only[ov,g1,vv1]at h3;rw[f1,AI (cells:=(aW z1 st.σ).1) (by rw[←hA,Fo (rm _),abM];rfl) hc1,gI]at h3
 obtain⟨r1,hr1,rfl⟩:=h3;rw[←hA,MV]at h4;rw[←hA];have f2:∀x y:Obj,(st.σ++N)++x::(N++[y])=((st.σ++N)++x::N)++y::[]:=fun x y=>by simp
 have f3:∀x:Obj,((st.σ++N)++x::N).length=(st.σ++N).length+1+N.length:=fun x=>by simp;omega
 have f4:(st.σ++N++[mkObj s3 (aW z1 st.σ).1]).length+nd z2=(st.σ++N).length+1+N.length:=by rw[hNl,hz];simp;omega
 simp only[ov,g2,vv2,f4]at h4;rw[f2,AI (cells:=cs2) (by rw[←f3 (.pv s3 [r1] false),Fo (rm _),abM];rfl) hc2',gI]at h4
 obtain⟨r2,hr2,rfl⟩:=h4;rw[←f3 (.pv s3 [r1] false),MV,←f2];generalize hd2:(aW z2 st.σ).1=ds2;have hd2':ds2.length=s4:=by rw[←hd2,(vz z2 _).2];exact hz2
 generalize hd1:(aW z1 (st.σ++N++[mkObj s4 ds2])).1=ds1;have hd1':ds1.length=s3:=by rw[←hd1,(vz z1 _).2];exact hz1
 have k1:(st.σ++N++[mkObj s4 ds2]++N++[mkObj s3 ds1])=(st.σ++N)++mkObj s4 ds2::(N++[mkObj s3 ds1]):=by simp
 have k4:(st.σ++N++[mkObj s4 ds2]).length+nd z1=(st.σ++N).length+1+N.length:=by rw[hNl];simp;omega
 refine⟨⟨dX (dX st.τ e2 (.ptr (st.σ++N).length 1 0 0)) e1 (.ptr ((st.σ++N).length+1+N.length) 1 0 0),(st.σ++N)++.pv s4 [r2] false::(N++[.pv s3 [r1] false]),st.nt,st.rd⟩,?_,?_⟩
 ·rw[apd]
  refine⟨⟨dX st.τ e2 (.ptr (st.σ++N).length 1 0 0),st.σ++N++[mkObj s4 ds2],st.nt,st.rd⟩,⟨dX (dX st.τ e2 (.ptr (st.σ++N).length 1 0 0)) e1 (.ptr ((st.σ++N).length+1+N.length) 1 0 0),(st.σ++N)++mkObj s4 ds2::(N++[mkObj s3 ds1]),st.nt,st.rd⟩,
   ⟨dX (dX st.τ e2 (.ptr (st.σ++N).length 1 0 0)) e1 (.ptr ((st.σ++N).length+1+N.length) 1 0 0),(st.σ++N)++mkObj s4 ds2::(N++[.pv s3 [r1] false]),st.nt,st.rd⟩,?_,?_,?_,?_⟩
  ·rw[zt rfl rfl]
   refine⟨_,_,Eo,fun k hk=>by cases hk;exact b2',?_⟩
   simp only[GN,hd2,hN2,hA,hz]
  ·rw[zt rfl rfl]
   refine⟨_,_,Eo,fun k hk=>by cases hk;exact b1,?_⟩
   simp only[GN,hd1,hN,k1,k4]
  ·rw[zt rfl rfl]
   refine⟨.any,_,?_,fun k hk=>by(cases hk),rfl⟩
   simp only[plain,ov,g3];rw[show O.val (dX (dX st.τ e2 (.ptr (st.σ++N).length 1 0 0)) e1 (.ptr ((st.σ++N).length+1+N.length) 1 0 0)) v1=.p q1 by rw[arg_val ha1 (fun t h1 h2=>oth .any .any _ _ t h1 h2),vv1]]
   rw[f2,AI (cells:=ds1) (by rw[←f3 (mkObj s4 ds2),Fo (rm _),abM];rfl) hd1',hr1,xu,xu,←f3 (mkObj s4 ds2),MV,←f2]
  ·rw[zt rfl rfl]
   refine⟨.any,_,?_,fun k hk=>by(cases hk),rfl⟩
   simp only[plain,ov,g4];rw[show O.val (dX (dX st.τ e2 (.ptr (st.σ++N).length 1 0 0)) e1 (.ptr ((st.σ++N).length+1+N.length) 1 0 0)) v2=.p q2 by rw[arg_val ha2 (fun t h1 h2=>oth .any .any _ _ t h1 h2),vv2]]
   rw[AI (cells:=ds2) (by rw[Fo (rm _),abM];rfl) hd2',hr2,xu,xu,MV]
 ·refine⟨rfl,rfl,fun t h1 h2=>oth _ _ _ _ t h1 h2,?_,?_,?_,?_,?_,fun b=>?_,⟨s4,r2,?_⟩,⟨s3,r1,?_⟩⟩
  ·simp only[g1]
  ·simp only[g2,f4,hNl]
  ·simp only[g3,hNl]
  ·simp only[g4]
  ·simp
  ·rw[←hNl]
   exact aeA _ _ _ _ b
  ·show((st.σ++N)++_::_)[_]?=_
   rw[Fo (rm _),abM];rfl
  ·show((st.σ++N)++_::(N++[_]))[_]?=_
   rw[←hNl,f2,←f3 (.pv s4 [r2] false),Fo (rm _),abM];rfl
theorem cK.swapped{V:View}(h:cK p cq V){b1 b2 n:Nat}(h1:n≤b1)(h2:n≤b2){own':List Loc}{σ':ag}(hl:own'.length=σ'.length)(ho:∀b,own'[b]?=V.own[sw b1 b2 b]?)(hs:∀b,σ'[b]?=V.σ[sw b1 b2 b]?)(hb:∀o∈V.σ,Obj.below n o=true):cK p cq ⟨own',σ',V.ok,V.w⟩:=by
 have hsh:∀b,b<n→σ'[b]?=V.σ[b]? := fun b hb=>by rw[hs,afU h1 h2 hb]
 have hown:∀b,b<n→own'[b]?=V.own[b]? := fun b hb=>by rw[ho,afU h1 h2 hb]
 have hat:∀c r,(View.mk own' σ' V.ok V.w).at c r→V.at (sw b1 b2 c) r:=by
  rintro c r ⟨l,o,k1,k2,k3,k4⟩
  exact⟨l,o,by rw[←ho c];exact k1,by rw[←hs c];exact k2,k3,k4⟩
 refine⟨hl,?_,fun c c' r hc hc'=>arC (h.one _ _ r (hat c r hc) (hat c' r hc')),?_,fun r ⟨c,hc⟩=>h.lt r ⟨_,hat c r hc⟩,h.zf⟩
 ·intro c l o k1 k2
  have k1':V.own[sw b1 b2 c]?=some l:=by rw[←ho c];exact k1
  have k2':V.σ[sw b1 b2 c]?=some o:=by rw[←hs c];exact k2
  have hor:=h.obj _ l o k1' k2';have hbo:=hb o (mi k2');cases o with
  |pv es rows f=>
   refine⟨hor.wide,hor.cap,hor.nil,hor.hole,fun r hr=>?_⟩
   obtain⟨cc,t,h3,h4,h5⟩:=hor.cells r hr;refine⟨cc,t,h3,h4,fun k a ha=>?_⟩
   obtain⟨v,h6,h7,h8⟩:=h5 k a ha;refine⟨v,h6,h7,?_⟩;rw[kR,zA,gI]at ha;obtain⟨q,_,rfl⟩:=ha;exact .p h8.Ak
  |av es rows f=>
   refine⟨hor.wide,hor.cap,hor.nil,hor.hole,fun r hr=>?_⟩
   obtain⟨cc,t,h3,h4,h5⟩:=hor.cells r hr;refine⟨cc,t,h3,h4,fun k a ha=>?_⟩
   obtain⟨v,h6,h7,h8⟩:=h5 k a ha;refine⟨v,h6,h7,h8.under hsh hown ?_⟩;simp only[Obj.below,Ca]at hbo;obtain⟨x,hx,hax⟩:=List.mem_flatten.1 (mi ha);exact hbo x hx a hax
  |map es f=>
   obtain⟨r,en,clock,hl,hm⟩:=hor;refine⟨r,en,clock,hl,hm.heap,hm.len,hm.key,fun i a b h1 h2=>(hm.val i a b h1 h2).under hsh hown ?_⟩
   simp only[Obj.below,Ca]at hbo;exact hbo a (mi h1)
  |loop τ nt ps hJ body s=>
   obtain⟨r,L,hl,hm⟩:=hor;refine⟨r,L,hl,hm.heap,hm.state,hm.hJ,hm.body,hm.ps,hm.size,hm.small,fun t=>(hm.tmps t).under hsh hown ?_⟩
   exact OR τ t hbo
  |gone=>trivial
 ·intro c r o hc k1 hf hk
  exact h.apart _ r o (hat c r hc) (by rw[←hs c];exact k1) hf hk
theorem aeJ{V V':View}(hok:V'.ok=V.ok)(hw:V'.w=V.w){x:AV}{u:Value}(hu:u=undef)(h:aV V x u):aV V' x u:=by
 unfold undef at hu;cases h with
 |any v=>exact .any _
 |p h=>rw[←hok,←hw]at h;exact .p h
 |jC cs vs hl h=>
  simp only[Value.tuple.injEq]at hu;have:vs=[]:=by simpa using hu
  subst this;have:cs=[]:=Jq.1 (by simpa using hl)
  subst this;exact .jC [] [] rfl (by simp)
 |_=>cases hu
theorem B8.arH{st' st2:St}{d1 d2 b1 b2 n:Nat}(hT:Twin d1 d2 b1 b2 st' st2)(h1:n≤b1)(h2:n≤b2)(hob:st'.σ.all (Obj.below n)=true)(hτ:∀t,t<st'.nt→t≠d1→t≠d2→below n (st'.τ.get t)=true)
  {own:List Loc} {ok:Nat→Prop} {w:World} {base:Nat} {F:Fence} {a:Act} (hN:B8 p cq ⟨own,st2.σ,ok,w⟩ st2 base F a) :
  ∃own',B8 p cq ⟨own',st'.σ,ok,w⟩ st' base F a∧∀V0:View,V0.σ.length≤n→Step V0 ⟨own,st2.σ,ok,w⟩→Step V0 ⟨own',st'.σ,ok,w⟩:=by
 have hlen:own.length=st2.σ.length:=hN.s.len;obtain⟨s1,r1,o1⟩:=hT.o1;obtain⟨s2,r2,o2⟩:=hT.o2;have l1:b1<own.length:=by have:=(fU.1 o1).1;omega
 have l2:b2<own.length:=by have:=(fU.1 o2).1;omega
 have ho:∀b,((List.range own.length).map fun b=>own.getD (sw b1 b2 b) default)[b]?=own[sw b1 b2 b]? := by
  intro b;rw[zA];rcases VN b own.length with hb|hb
  ·have:sw b1 b2 b<own.length:=by unfold sw;split;exact l2;split;exact l1;exact hb
   rw[abA hb];simp[this]
  ·have:sw b1 b2 b=b:=by unfold sw;rw[if_neg (by omega),if_neg (by omega)]
   rw[this,aba (by simpa using hb),aba hb]
   rfl
 generalize hown':((List.range own.length).map fun b=>own.getD (sw b1 b2 b) default)=own' at ho
 have hl':own'.length=st'.σ.length:=by rw[←hown',aO,abU,hlen,hT.len]
 have hbel:∀o∈st2.σ,Obj.below n o=true:=by
  intro o hm;obtain⟨b,hb⟩:=aa5 hm;have:=hT.obj (sw b1 b2 b);rw[alA,hb]at this;exact Ca.1 hob o (mi this)
 have hS:cK p cq ⟨own',st'.σ,ok,w⟩:=hN.s.swapped h1 h2 hl' ho hT.obj hbel;have hsh:∀b,b<n→st'.σ[b]?=st2.σ[b]? := fun b hb=>by rw[hT.obj,afU h1 h2 hb]
 have hown:∀b,b<n→own'[b]?=own[b]? := fun b hb=>by rw[ho,afU h1 h2 hb]
 have hat:∀r,View.owned ⟨own',st'.σ,ok,w⟩ r→View.owned ⟨own,st2.σ,ok,w⟩ r:=by
  rintro r ⟨c,l,o,k1,k2,k3,k4⟩
  exact⟨sw b1 b2 c,l,o,by rw[←ho c];exact k1,by simp only[];rw[←hT.obj c];exact k2,k3,k4⟩
 have w1:sw b1 b2 b1=b2:=by simp[sw]
 have w2:sw b1 b2 b2=b1:=by unfold sw;split;assumption;rw[if_pos rfl]
 have ptr:∀(c c':Nat) (u:Value),sw b1 b2 c=c'→aV ⟨own,st2.σ,ok,w⟩ (.ptr c' 1 0 0) u→aV ⟨own',st'.σ,ok,w⟩ (.ptr c 1 0 0) u:=by
  intro c c' u hc h;cases h with
  |ptr b m i o x s hs hn h=>exact .ptr c 1 0 0 x s (by unfold View.sh at hs ⊢;simp only[]at hs ⊢;rw[hT.obj,hc];exact hs) hn (fun es l k1 k2=>h es l k1 (by simp only[]at k2 ⊢;rw[ho,hc]at k2;exact k2))
 refine⟨own',⟨hS,⟨by rw[hN.t.size,hT.nt],by rw[←hT.nt];exact hN.t.small,fun t=>?_⟩,tE.more hN.d hat,?_⟩,fun V0 hn hs=>?_⟩
 ·have ht:=hN.t.get t
  by_cases e1:t=d1
  ·subst e1
   rw[hT.h1]at ht;rw[hT.g1];exact ptr _ _ _ w1 ht
  ·by_cases e2:t=d2
   ·subst e2
    rw[hT.h2]at ht;rw[hT.g2];exact ptr _ _ _ w2 ht
   ·rw[hT.get t e1 e2]at ht
    rcases VN t st'.nt with hlt|hge
    ·exact ht.under (n:=n) hsh hown (hτ t hlt e1 e2)
    ·refine aeJ (V:=⟨own,st2.σ,ok,w⟩) (V':=⟨own',st'.σ,ok,w⟩) rfl rfl ?_ ht
     have:¬t<a.tmps.size:=by rw[hN.t.size,hT.nt];omega
     simp[Array.getD,this]
 ·have hf:=hN.f
  rw[hT.rd]at hf;unfold xw at hf ⊢;split at hf
  ·exact hf
  ·rename_i l hrd
   obtain⟨r,e,hf⟩:=hf
   have hne:sw b1 b2 l=l:=by
    have k1:l≠b1:=by
     rintro rfl
     unfold View.sh at hf;simp only[o1,xu,Obj.sh,bI,reduceCtorEq,false_and,or_self]at hf
    have k2:l≠b2:=by
     rintro rfl
     unfold View.sh at hf;simp only[o2,xu,Obj.sh,bI,reduceCtorEq,false_and,or_self]at hf
    unfold sw;rw[if_neg k1,if_neg k2]
   refine⟨r,e,?_⟩;unfold View.sh at hf ⊢;simp only[ho,hT.obj,hne]at hf ⊢;exact hf
 ·refine⟨⟨hs.ext.ok,hs.ext.keep,fun b s hb=>?_⟩,hs.size,hs.keep,hs.H9,fun r hr=>hs.zh r (hat r hr),hs.env⟩
  obtain⟨s',hs',hle⟩:=hs.ext.sh b s hb
  have hbn:b<n:=by
   unfold View.sh at hb;rcases VN b V0.σ.length with h1|h1
   ·omega
   ·simp[aba h1]at hb
  refine⟨s',?_,?_⟩
  ·unfold View.sh at hs' ⊢
   simp only[]at hs' ⊢;rw[hsh b hbn];exact hs'
  ·simp only[]at hle ⊢
   rw[hown b hbn];exact hle
theorem AA:∀{A B:List fQ} {s t:St},xz p cq (A++B) s t↔∃m,xz p cq A s m∧xz p cq B m t
 | [],B,s,t=>⟨fun h=>⟨s,.nil s,h⟩,fun⟨m,h1,h2⟩=>by cases h1;exact h2⟩
 |a::A,B,s,t=>by
  constructor
  ·intro h
   cases h with
   |cons _ _ _ s1 _ h1 h2=>
    obtain⟨m,h3,h4⟩:=AA.1 h2;exact⟨m,.cons _ _ _ s1 _ h1 h3,h4⟩
  ·rintro⟨m,h1,h2⟩
   cases h1 with
   |cons _ _ _ s1 _ h1 h3=>exact .cons _ _ _ s1 _ h1 (AA.2 ⟨m,h3,h2⟩)
theorem aeE{l:List fQ}{x:Nat×Nat×Nat}(h:CL l=some x):∃x0 x1 x2 x3,l=[x0,x1,x2,x3]∧x0.op.kind cq=.a∧x2.op.kind cq=.w∧x3.op.kind cq=.w:=by
 unfold CL at h;split at h
 ·exact⟨_,_,_,_,rfl,rfl,rfl,rfl⟩
 ·cases h
theorem YI{n i0:Nat}{listed:Array Bool}(hn:n=i0+4)(h0:listed.getD i0 true=false)(h2:listed.getD (i0+2) true=false)(h3:listed.getD (i0+3) true=false) :
  rem n listed=((List.range i0).filter fun i=>!listed.getD i true)++(i0::((if listed.getD (i0+1) true=true then[]else[i0+1])++[i0+2,i0+3])):=by
 subst hn;unfold rem;rw[List.range_succ,List.range_succ,List.range_succ,List.range_succ];simp only[List.filter_append,ab7,List.filter_nil,h0,h2,h3,ab4,if_true];cases listed.getD (i0+1) true<;>simp
theorem acT{ops:Array Oper}{is:List fQ}(hl:is.length=ops.size)(hi:∀(j:Nat) (o:Oper) (i:fQ),ops[j]?=some o→is[j]?=some i→IOk p ops o i)
  (H1:∀(j:Nat) (o:Oper),ops[j]?=some o→∀e∈o.after,Region.binds .any e=true→e.on<j) {i0 d1 d2 k:Nat} (ht:CL (is.drop i0)=some (d1,d2,k)) (H2:∀(i j:Nat) (x y:fQ),is[i]?=some x→is[j]?=some y→i<j→i∈(fX ops.toList []).getD j []∨indep cq x y=true∨(i=i0∧j=i0+1))
  {st':St} (hv:EP st'.τ (is.drop i0)=true) {base:Nat} {F:Fence} {Q:Exit→Act→World→Prop}:∀(fuel:Nat) (listed:Array Bool) (st tgt:St) (own:List Loc) (ok:Nat→Prop) (w:World) (a:Act),listed.size=ops.size→(∀j,listed.getD j false=true→∀x∈(fX ops.toList []).getD j [],listed.getD x false=true) →
   (rem ops.size listed).length≤fuel→xz p cq ((rem ops.size listed).filterMap (is[·]?)) st tgt→B8 p cq ⟨own,st.σ,ok,w⟩ st base F a→(tgt=st'∨(∃b,Twin d1 d2 b (b+1+k) st' tgt)∧listed.getD (i0+1) false=true) →
   (∀(t:St) (own':List Loc) (ok':Nat→Prop) (w':World) (a':Act),(t=st'∨∃b,Twin d1 d2 b (b+1+k) st' t)→B8 p cq ⟨own',t.σ,ok',w'⟩ t base F a'→Step ⟨own,st.σ,ok,w⟩ ⟨own',t.σ,ok',w'⟩→Q .normal a' w')→wpAnyIn F 0 p .any ops Q fuel listed a w:=by
 obtain⟨x0,x1,x2,x3,hdrop,hk0,hk2,hk3⟩:=aeE (cq:=cq) ht
 have hn:ops.size=i0+4:=by
  have:=congrArg List.length hdrop;rw[ab8]at this;simp only[lH,l5]at this;omega
 have hget:∀j,is[i0+j]?=[x0,x1,x2,x3][j]? := fun j=>by rw[←hdrop,abk]
 have fin:∀(listed:Array Bool) (st tgt:St) (own:List Loc) (ok:Nat→Prop) (w:World) (a:Act),Region.ready .any ops listed=[]→listed.size=ops.size→xz p cq ((rem ops.size listed).filterMap (is[·]?)) st tgt→B8 p cq ⟨own,st.σ,ok,w⟩ st base F a→(tgt=st'∨∃b,Twin d1 d2 b (b+1+k) st' tgt) →
   (∀(t:St) (own':List Loc) (ok':Nat→Prop) (w':World) (a':Act),(t=st'∨∃b,Twin d1 d2 b (b+1+k) st' t)→B8 p cq ⟨own',t.σ,ok',w'⟩ t base F a'→Step ⟨own,st.σ,ok,w⟩ ⟨own',t.σ,ok',w'⟩→Q .normal a' w')→Q .normal a w:=by
  intro listed st tgt own ok w a hr hsz hR hN hT hQ
  have hnil:rem ops.size listed=[]:=by
   cases hrem:rem ops.size listed with
   |nil=>rfl
   |cons i0 r=>
    exfalso
    obtain⟨i,hmem,hmin⟩:∃i,i∈rem ops.size listed∧∀x∈rem ops.size listed,i≤x:=by
     have:=least (P:=fun i=>i∈rem ops.size listed) ⟨i0,by rw[hrem];simp⟩
     exact this
    obtain⟨h1,h2⟩:=uq.1 hmem
    have hready:i∈Region.ready .any ops listed:=by
     rw[mem_ready];refine⟨h2,ops[i],by simp[h1],fun e he hb=>?_⟩
     have hlt:=H1 i ops[i] (by simp[h1]) e he hb
     cases hg:listed.getD e.on false with
     |true=>rfl
     |false=>
      have hsz':e.on<listed.size:=by omega
      have:e.on∈rem ops.size listed:=uq.2 ⟨by omega,by simp[Array.getD,hsz']at hg ⊢;exact hg⟩
      have:=hmin _ this;omega
    rw[hr]at hready;cases hready
  rw[hnil]at hR;cases hR;exact hQ _ own ok w a hT hN (Step.refl _)
 intro fuel
 induction fuel with
 |zero=>
  intro listed st tgt own ok w a hsz hcl hlen hR hN hT hQ;have hnil:rem ops.size listed=[]:=Jq.1 (by omega)
  have hready:Region.ready .any ops listed=[]:=by
   cases hr:Region.ready .any ops listed with
   |nil=>rfl
   |cons i r=>
    exfalso;have hm:i∈Region.ready .any ops listed:=by rw[hr];simp
    rw[mem_ready]at hm;obtain⟨h0,o,ho,_⟩:=hm;have:i∈rem ops.size listed:=uq.2 ⟨(VJ.1 ho).1,h0⟩;rw[hnil]at this;cases this
  exact⟨hready,fin listed st tgt own ok w a hready hsz hR hN (hT.imp id fun h=>h.1) hQ⟩
 |succ fuel ih=>
  intro listed st tgt own ok w a hsz hcl hlen hR hN hT hQ;refine⟨fun hr=>fin listed st tgt own ok w a hr hsz hR hN (hT.imp id fun h=>h.1) hQ,fun i hready=>?_⟩
  rw[mem_ready]at hready;obtain⟨h0,o,ho,hall⟩:=hready;have hin:i<ops.size:=(VJ.1 ho).1;have hmem:i∈rem ops.size listed:=uq.2 ⟨hin,h0⟩;have hil:i<is.length:=by omega
  have hb:∀x∈(fX ops.toList []).getD i [],listed.getD x false=true:=by
   intro x hx;have:=Gj ops.toList [] i o (by simpa using ho) (fun e he hb=>by simpa using H1 i o ho e he hb) x (by simpa using hx)
   rcases this with⟨e,he,hbd,rfl⟩|⟨e,he,hbd,hx⟩
   ·exact hall e he hbd
   ·exact hcl e.on (hall e he hbd) x hx
  have unl:∀j,j<ops.size→listed.getD j true=false→listed.getD j false=false:=fun j hj h=>by
   have hjs:j<listed.size:=by omega
   simp[Array.getD,hjs]at h ⊢;exact h
  have notb:∀j,listed.getD j true=false→j<i→j∉(fX ops.toList []).getD i []:=fun j h hj hx=>by
   have h1:=hb j hx;rw[unl j (by omega) h]at h1
   cases h1
  have hclose:∀j,(listed.setIfInBounds i true).getD j false=true→∀x∈(fX ops.toList []).getD j [],(listed.setIfInBounds i true).getD x false=true:=by
   intro j hj x hx;by_cases hji:j=i
   ·subst hji
    exact getD_set_true (hb x hx)
   ·rw[getD_set_ne false (fun h=>hji h.symm)]at hj
    exact getD_set_true (hcl j hj x hx)
  by_cases hc:i=i0+1∧listed.getD i0 true=false
  ·obtain⟨rfl,hc⟩:=hc
   have htgt:tgt=st':=by
    rcases hT with h|⟨_,h⟩
    ·exact h
    ·rw[unl _ hin h0]at h;cases h
   subst htgt
   have later:∀j y,is[j]?=some y→i0+1<j→y.op.kind cq=.w→listed.getD j true=false:=by
    intro j y hy hj hk;have hx0:is[i0]?=some x0:=hget 0;rcases H2 i0 j x0 y hx0 hy (by omega)with h|h|h
    ·have hjs:j<listed.size:=by have:=(fU.1 hy).1;omega
     cases hg:listed.getD j true with
     |false=>rfl
     |true=>
      have:listed.getD j false=true:=by simp[Array.getD,hjs]at hg ⊢;exact hg
      have:=hcl j this i0 h;rw[unl i0 (by omega) hc]at this
      cases this
    ·simp only[indep,ud,hk0,hk]at h
     exact absurd h.2 (by decide)
    ·omega
   have u2:=later (i0+2) x2 (hget 2) (by omega) hk2
   have u3:=later (i0+3) x3 (hget 3) (by omega) hk3
   have r1:=YI hn hc u2 u3;rw[h0,if_neg (by simp)]at r1
   have r2:=YI (listed:=listed.setIfInBounds (i0+1) true) hn (by rw[getD_set_ne true (by omega)];exact hc) (by rw[getD_set_ne true (by omega)];exact u2) (by rw[getD_set_ne true (by omega)];exact u3)
   have hself:(listed.setIfInBounds (i0+1) true).getD (i0+1) true=true:=by
    have:i0+1<listed.size:=by omega
    simp[Array.getD,this]
   have hflt:((List.range i0).filter fun i=>!(listed.setIfInBounds (i0+1) true).getD i true)=(List.range i0).filter fun i=>!listed.getD i true :=
    List.filter_congr fun x hx=>by rw[getD_set_ne true (by rw[abF]at hx;omega)]
   rw[hself,if_pos rfl,hflt]at r2;have e0:is[i0]?=some x0:=hget 0;have e1:is[i0+1]?=some x1:=hget 1;have e2:is[i0+2]?=some x2:=hget 2;have e3:is[i0+3]?=some x3:=hget 3;rw[r1,abI]at hR;simp only[FD,x9,abW,List.filterMap_nil,e0,e1,e2,e3]at hR;obtain⟨sa,ra,rb⟩:=AA.1 hR;rw[hdrop]at ht hv;obtain⟨j1,j2,post,st2,hj,k1,k2⟩:=alG ht hv rb;simp only[aco]at hj;obtain⟨rfl,rfl,rfl⟩:=hj;have hR2:=AA.2 ⟨sa,ra,k1⟩
   obtain⟨s1,hf,hR'⟩:=front hR2 rfl (fun x hx=>by
    rw[List.mem_filterMap]at hx;obtain⟨j,hj,hx⟩:=hx;rw[List.mem_filter,abF]at hj;have hj2:listed.getD j true=false:=by simpa using hj.2
    rcases H2 j (i0+1) x x1 hx e1 (by omega)with h|h|h
    ·exact absurd h (notb j hj2 (by omega))
    ·exact .inl h
    ·omega)
   refine MY ho (hi (i0+1) o x1 ho e1) hf hN (fun own1 ok1 w1 a1 hN1 st1=>?_)
   refine ih (listed.setIfInBounds (i0+1) true) s1 st2 own1 ok1 w1 a1 (by simpa using hsz) hclose ?_ ?_ hN1 (.inr ⟨⟨_,k2⟩,?_⟩) (fun t own2 ok2 w2 a2 hT2 hN2 s2=>hQ t own2 ok2 w2 a2 hT2 hN2 (st1.trans s2))
   ·rw[r2]
    rw[r1]at hlen;simp at hlen ⊢;omega
   ·rw[r2,abI]
    simp only[x9,abW,List.filterMap_nil,e0,e2,e3];exact hR'
   ·have:i0+1<listed.size:=by omega
    simp[Array.getD,this]
  ·obtain⟨pre,post,e1,e2,e3⟩:=Th hsz hmem
   rw[e1,abI,abW]at hR;simp only[oq hil]at hR
   obtain⟨s1,hf,hR'⟩:=front hR rfl (fun x hx=>by
    rw[List.mem_filterMap]at hx;obtain⟨j,hj,hx⟩:=hx;have h2:listed.getD j true=false:=(uq.1 (by rw[e1];simp[hj]:j∈rem ops.size listed)).2
    rcases H2 j i x is[i] hx (oq hil) (e3 j hj)with h|h|h
    ·exact absurd h (notb j h2 (e3 j hj))
    ·exact .inl h
    ·exact absurd ⟨h.2,h.1 ▸ h2⟩ hc)
   refine MY ho (hi i o is[i] ho (oq hil)) hf hN (fun own1 ok1 w1 a1 hN1 st1=>?_)
   refine ih (listed.setIfInBounds i true) s1 tgt own1 ok1 w1 a1 (by simpa using hsz) hclose ?_ ?_ hN1 (hT.imp id fun h=>⟨h.1,getD_set_true h.2⟩) (fun t own2 ok2 w2 a2 hT2 hN2 s2=>hQ t own2 ok2 w2 a2 hT2 hN2 (st1.trans s2))
   ·rw[e2]
    rw[e1]at hlen;simp at hlen ⊢;omega
   ·rw[e2,abI]
    exact hR'
theorem aiZ(hm:p.follows .mixedOrders=true):aeN p cq:=by
 intro id ops is hl hi st st' hd hR own ok w a base F hN Q hQ
 have edges:∀(h:(ops.toList.zipIdx.all fun(o,i)=>o.after.all fun e=>!Region.binds .any e ||e.on<i)=true) (j:Nat) (o:Oper),ops[j]?=some o→∀e∈o.after,Region.binds .any e=true→e.on<j:=by
  intro h j o ho e he hb;rw[Ca]at h;have h1:=h (o,j) (by rw[abn];simpa using ho)
  simp only[Array.all_eq_true_iff_forall_mem]at h1;have h2:=h1 e he;simpa[hb]using h2
 have H1:∀(j:Nat) (o:Oper),ops[j]?=some o→∀e∈o.after,Region.binds .any e=true→e.on<j:=by
  rcases hd with hd|⟨prs,hd,_⟩
  ·unfold Gr at hd
   simp only[ud]at hd;exact edges hd.1
  ·unfold z7 at hd
   simp only[ud]at hd;exact edges hd.1.1
 have hstep:Step ⟨[],[],ok,w⟩ ⟨[],[],ok,w.drew⟩:=by
  refine⟨⟨fun _ h=>h,fun _ _=>rfl,fun b s hs=>?_⟩,rm _,fun _ _ _=>rfl,fun _ h=>.inl h,?_,rfl⟩
  ·simp[View.sh]at hs
  ·rintro r ⟨b,l,o,h1,_⟩;simp at h1
 obtain⟨k1,k2⟩:=hN.s.ZJ hstep (ok2:=ok) (fun _ h=>h) (fun _ h=>.inl h) (fun b hb=>hN.s.zf b hb)
 have hrem:rem ops.size (Array.replicate ops.size false)=List.range ops.size:=by
  unfold rem;rw[List.filter_eq_self];intro x hx;rw[abF]at hx;simp[Array.getD,hx]
 have hfm:(List.range ops.size).filterMap (is[·]?)=is:=by
  rw[←hl];exact Kb is
 have hnone:∀j,(Array.replicate ops.size false).getD j false=true→∀x∈(fX ops.toList []).getD j [],(Array.replicate ops.size false).getD x false=true:=by
  intro j hj;exfalso;by_cases h:j<ops.size
  ·simp[Array.getD,h]at hj
  ·simp[Array.getD,h]at hj
 have hd':(Gr cq ops.toList is=true∨∃prs,z7 cq ops.toList is prs=true∧Az is prs st'.τ=true)∨∃prs,z7 cq ops.toList is prs=true∧CK is prs st st'=true:=by
  rcases hd with hd|⟨prs,hd,hro⟩
  ·exact .inl (.inl hd)
  ·rw[QN]at hro
   rcases hro with h|h
   ·exact .inl (.inr ⟨prs,hd,h⟩)
   ·exact .inr ⟨prs,hd,h⟩
 rcases hd' with hd|⟨prs,hd,htw⟩
 rotate_left
 ·unfold CK at htw
  split at htw
  case h_2=>cases htw
  rename_i i0 j0;split at htw
  case h_2=>cases htw
  rename_i d1 d2 k ht;simp only[ud,beq_iff_eq]at htw;obtain⟨⟨rfl,hv⟩,htw⟩:=htw;split at htw
  case h_2=>cases htw
  rename_i b _ _ _ hb;simp only[ud,decide_eq_true_eq,Ca,abF,QN,beq_iff_eq]at htw;obtain⟨⟨hle,hob⟩,hτ⟩:=htw
  have H2:∀(i j:Nat) (x y:fQ),is[i]?=some x→is[j]?=some y→i<j→i∈(fX ops.toList []).getD j []∨indep cq x y=true∨(i=i0∧j=i0+1):=by
   intro i j x y hx hy hij;unfold z7 at hd;simp only[ud,Ca]at hd;have h1:=hd.2 (y,j) (by rw[abn];simpa using hy) (x,i) (by rw[abn];simpa using hx)
   simp only[hij,decide_true,ab1,G1,QN,ud]at h1;rcases h1 with(h|h)|⟨_,h⟩
   ·exact .inl (by simpa using h)
   ·exact .inr (.inl h)
   ·exact .inr (.inr (by simpa using h))
  refine wpIn_region_any hm (acT hl hi H1 ht H2 hv ops.size _ st st' own ok w.drew a (by simp) hnone (by rw[hrem];simp) (by rw[hrem,hfm];exact hR) (hN.step k2 k1) (.inl rfl) (fun t own' ok' w' a' hT hN' s'=>?_))
  rcases hT with rfl|⟨b',hT⟩
  ·exact hQ own' ok' w' a' hN' (k2.trans s')
  ·have hbb:b=b':=by have:=hT.g1;rw[hb]at this;cases this;rfl
   subst hbb
   obtain⟨own2,hN2,hS2⟩:=hN'.arH (n:=b-k) hT (by omega) (by omega) (Ca.2 hob) (fun t h0 h1 h2=>by
    rcases hτ t h0 with(h|h)|h
    ·exact absurd h h1
    ·exact absurd h h2
    ·exact h)
   exact hQ own2 ok' w' a' hN2 (hS2 ⟨own,st.σ,ok,w⟩ (by simp only[];omega) (k2.trans s'))
 have H2:∀(i j:Nat) (x y:fQ),is[i]?=some x→is[j]?=some y→i<j→i∈(fX ops.toList []).getD j []∨indep cq x y=true∨(Ssa cq is∧Cq x y=true∧jO st'.τ x y=true):=by
  intro i j x y hx hy hij;have mx:(x,i)∈is.zipIdx:=by rw[abn];simpa using hx
  have my:(y,j)∈is.zipIdx:=by rw[abn];simpa using hy
  rcases hd with hd|⟨prs,hd,hro⟩
  ·unfold Gr at hd
   simp only[ud,Ca]at hd;have h1:=hd.2 (y,j) my (x,i) mx;simp only[hij,decide_true,ab1,G1,QN]at h1;rcases h1 with h|h
   ·exact .inl (by simpa using h)
   ·exact .inr (.inl h)
  ·unfold z7 at hd
   simp only[ud,Ca]at hd;obtain⟨⟨_,hd2⟩,hd3⟩:=hd
   have hssa:Ssa cq is:=by
    have key:∀(l:List fQ) (k:Nat),(∀(a b:Nat) (x y:fQ),l[a]?=some x→l[b]?=some y→a≤b→x.op.kind cq≠.q0→∀d,y.dst=some d→d∉x.looks)→Ssa cq l:=by
     intro l
     induction l with
     |nil=>intro _ _;exact .nil
     |cons a l ih=>
      intro k h;refine .cons _ _ (fun hk0 z hz d hd=>?_) (ih k fun i j x y hx hy hij=>h (i+1) (j+1) x y (by simpa using hx) (by simpa using hy) (by omega))
      obtain⟨b,hb⟩:=aa5 hz;exact h 0 b a z (by simp) hb (Zw _) hk0 d hd
    refine key is 0 fun a b x y hx hy hab hk0 d hdd=>?_
    have h1:=hd2 (y,b) (by rw[abn];simpa using hy) (x,a) (by rw[abn];simpa using hx)
    simp only[QN,decide_eq_true_eq]at h1;rcases h1 with(h1|h1)|h1
    ·omega
    ·cases h1
    ·rw[hdd]at h1;simpa using h1
   have h1:=hd3 (y,j) my (x,i) mx;simp only[hij,decide_true,ab1,G1,QN,ud]at h1;rcases h1 with(h|h)|⟨h,hm⟩
   ·exact .inl (by simpa using h)
   ·exact .inr (.inl h)
   ·refine .inr (.inr ⟨hssa,h,?_⟩)
    unfold Az at hro;rw[Ca]at hro;have:=hro (i,j) (by simpa using hm)
    simpa only[hx,hy]using this
 exact wpIn_region_any hm (agE hl hi H1 H2 rfl ops.size _ st own ok w.drew a (by simp) hnone (by rw[hrem];simp) (by rw[hrem,hfm];exact hR) (hN.step k2 k1) (fun own' ok' w' a' hN' s'=>hQ own' ok' w' a' hN' (k2.trans s')))
end Go.AE
