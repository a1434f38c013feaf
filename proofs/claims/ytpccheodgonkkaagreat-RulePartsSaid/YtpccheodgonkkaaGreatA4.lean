import Derived.Test.YtpccheodgonkkaaGreatA3
set_option linter.unusedSimpArgs false
set_option linter.unusedVariables false
namespace Go.AE
def Uq:Obj→Obj
 |.pv es rows _=>.pv es rows false
 |.av es rows _=>.av es rows false
 |.map es _=>.map es false
 |o=>o
def Zg:Obj→Obj
 |.pv es rows _=>.pv es rows true
 |.av es rows _=>.av es rows true
 |.map es _=>.map es true
 |o=>o
theorem acr(o:Obj):Uq (Zg o)=Uq o:=by cases o<;>rfl
theorem ag1(o:Obj):Zg (Zg o)=Zg o:=by cases o<;>rfl
theorem Gy(σ:ae)(b i:Nat):(dD σ b)[i]?=(σ[i]?).map fun o=>if i=b then Zg o else o:=by
 unfold dD;cases ho:σ[b]? with
 |none=>
  by_cases h:i=b
  ·subst h;simp[ho]
  ·simp[h]
 |some o=>
  have hlt:=(gu.1 ho).1;by_cases h:i=b
  ·subst h
   cases o<;>simp only[Zg,ho,vd,if_true]<;>first|exact Xp hlt|exact ho
  ·cases o<;>simp only[h,if_false,Option.map_id_fun',id]<;>first|exact O0 (fun hx=>h hx.symm)|rfl
theorem iO:∀(L:List Nat) (σ:ae) (i:Nat),(bF σ L)[i]?=(σ[i]?).map fun o=>if i∈L then Zg o else o
 | [],σ,i=>by simp[bF]
 |b::L,σ,i=>by
  rw[bF,iO L,Gy];cases σ[i]? with
  |none=>rfl
  |some o=>
   simp only[vd,qL,bL];by_cases h:i=b
   ·by_cases h':i∈L
    ·simp only[h,true_or,if_true]
     rw[←h,if_pos h',ag1]
    ·simp only[h,true_or,if_true]
     rw[←h,if_neg h']
   ·simp[h]
theorem KH(σ:ae)(A B:List Nat):bF (bF σ A) B=bF (bF σ B) A:=by
 apply List.ext_getElem?;intro i;rw[iO,iO,iO,iO];cases σ[i]? with
 |none=>rfl
 |some o=>
  simp only[vd,bL];by_cases h:i∈A<;>by_cases h':i∈B<;>simp[h,h']
def Alike(σ σ':ae):Prop:=∀i:Nat,(σ[i]?).map Uq=(σ'[i]?).map Uq
theorem Alike.symm{σ σ':ae}(h:Alike σ σ'):Alike σ' σ:=fun i=>(h i).symm
theorem qB(σ:ae)(L:List Nat):Alike σ (bF σ L):=by
 intro i;rw[iO];cases σ[i]? with
 |none=>rfl
 |some o=>
  simp only[vd,bL];split
  ·rw[acr]
  ·rfl
theorem Alike.at{σ σ':ae}(h:Alike σ σ')(b:Nat):(σ[b]?=none∧σ'[b]?=none)∨(∃es rows f f',σ[b]?=some (.pv es rows f)∧σ'[b]?=some (.pv es rows f'))∨(∃es rows f f',σ[b]?=some (.av es rows f)∧σ'[b]?=some (.av es rows f')) ∨
  (∃es f f',σ[b]?=some (.map es f)∧σ'[b]?=some (.map es f'))∨∃o,σ[b]?=some o∧σ'[b]?=some o:=by
 have hb:=h b;cases h1:σ[b]? with
 |none=>
  cases h2:σ'[b]? with
  |none=>exact .inl ⟨rfl,rfl⟩
  |some o'=>rw[h1,h2]at hb;simp at hb
 |some o=>
  cases h2:σ'[b]? with
  |none=>rw[h1,h2]at hb;simp at hb
  |some o'=>
   rw[h1,h2]at hb;simp only[vd,bL]at hb;cases o<;>cases o'<;>simp only[Uq,Obj.pv.injEq,Obj.av.injEq,Obj.map.injEq,Obj.loop.injEq,reduceCtorEq,and_true]at hb
   ·obtain⟨rfl,rfl⟩:=hb;exact .inr (.inl ⟨_,_,_,_,rfl,rfl⟩)
   ·obtain⟨rfl,rfl⟩:=hb;exact .inr (.inr (.inl ⟨_,_,_,_,rfl,rfl⟩))
   ·subst hb;exact .inr (.inr (.inr (.inl ⟨_,_,_,rfl,rfl⟩)))
   ·obtain⟨rfl,rfl,rfl,rfl,rfl,rfl⟩:=hb;exact .inr (.inr (.inr (.inr ⟨_,rfl,rfl⟩)))
   ·exact .inr (.inr (.inr (.inr ⟨_,rfl,rfl⟩)))
theorem xf{α β:Type}{f g:α→Option β}{l:List α}(h:∀x∈l,f x=g x):omap f l=omap g l:=by
 induction l with
 |nil=>rfl
 |cons a r ih=>simp only[omap,h a (by simp),ih (fun x hx=>h x (by simp[hx]))]
theorem Qj{σ σ':ae}(h:Alike σ σ'):∀(k:Nat) (v:AV),az σ k v=az σ' k v:=by
 intro k
 induction k with
 |zero=>intro v;rfl
 |succ k ih=>
  intro v;have e:az σ k=az σ' k:=funext ih;cases v with
  |sl b n=>simp only[az];rcases h.at b with⟨h1,h2⟩|⟨_,_,_,_,h1,h2⟩|⟨_,_,_,_,h1,h2⟩|⟨_,_,_,h1,h2⟩|⟨_,h1,h2⟩<;>simp only[h1,h2,e]
  |ptr b n i o=>simp only[az];rcases h.at b with⟨h1,h2⟩|⟨_,_,_,_,h1,h2⟩|⟨_,_,_,_,h1,h2⟩|⟨_,_,_,h1,h2⟩|⟨_,h1,h2⟩<;>simp only[h1,h2,e]
  |map b=>simp only[az];rcases h.at b with⟨h1,h2⟩|⟨_,_,_,_,h1,h2⟩|⟨_,_,_,_,h1,h2⟩|⟨_,_,_,h1,h2⟩|⟨_,h1,h2⟩<;>simp only[h1,h2,e]
  |_=>simp only[az,e]
theorem WO{σ σ':ae}(h:Alike σ σ'):∀(k:Nat) (v:AV),refs σ k v=refs σ' k v:=by
 intro k
 induction k with
 |zero=>intro v;rfl
 |succ k ih=>
  intro v;have e:refs σ k=refs σ' k:=funext ih;cases v with
  |sl b n=>simp only[refs];rcases h.at b with⟨h1,h2⟩|⟨_,_,_,_,h1,h2⟩|⟨_,_,_,_,h1,h2⟩|⟨_,_,_,h1,h2⟩|⟨_,h1,h2⟩<;>simp only[h1,h2,e]
  |ptr b n i o=>simp only[refs];rcases h.at b with⟨h1,h2⟩|⟨_,_,_,_,h1,h2⟩|⟨_,_,_,_,h1,h2⟩|⟨_,_,_,h1,h2⟩|⟨_,h1,h2⟩<;>simp only[h1,h2,e]
  |map b=>simp only[refs];rcases h.at b with⟨h1,h2⟩|⟨_,_,_,_,h1,h2⟩|⟨_,_,_,_,h1,h2⟩|⟨_,_,_,h1,h2⟩|⟨_,h1,h2⟩<;>simp only[h1,h2,e]
  |_=>simp only[refs,e]
theorem S1{σ σ':ae}(h:Alike σ σ')(s:Nat)(g:Bool)(a:AV):gM σ s g a=gM σ' s g a:=by
 cases a with
 |ptr b n i o=>simp only[gM];rcases h.at b with⟨h1,h2⟩|⟨_,_,_,_,h1,h2⟩|⟨_,_,_,_,h1,h2⟩|⟨_,_,_,h1,h2⟩|⟨_,h1,h2⟩<;>simp only[h1,h2]
 |p v=>cases v<;>rfl
 |_=>rfl
theorem Xa{σ σ':ae}(h:Alike σ σ')(b:Nat):NO σ b=NO σ' b:=by
 unfold NO;rcases h.at b with⟨h1,h2⟩|⟨_,_,_,_,h1,h2⟩|⟨_,_,_,_,h1,h2⟩|⟨_,_,_,h1,h2⟩|⟨_,h1,h2⟩<;>simp only[h1,h2]<;>rfl
theorem W6{σ σ':ae}(h:Alike σ σ')(b:Nat):W5 σ b=W5 σ' b:=by
 unfold W5;rcases h.at b with⟨h1,h2⟩|⟨_,_,_,_,h1,h2⟩|⟨_,_,_,_,h1,h2⟩|⟨_,_,_,h1,h2⟩|⟨_,h1,h2⟩<;>simp only[h1,h2]<;>rfl
theorem V1{σ σ':ae}(h:Alike σ σ')(a:AV):bV σ a=bV σ' a:=by
 cases a with
 |sl b n=>simp only[bV,W6 h]
 |p v=>cases v<;>rfl
 |_=>rfl
theorem VZ{σ σ':ae}(h:Alike σ σ')(a:AV):yw σ a=yw σ' a:=by
 cases a with
 |map b=>simp only[yw];rcases h.at b with⟨h1,h2⟩|⟨_,_,_,_,h1,h2⟩|⟨_,_,_,_,h1,h2⟩|⟨_,_,_,h1,h2⟩|⟨_,h1,h2⟩<;>simp only[h1,h2]
 |p v=>cases v<;>rfl
 |_=>rfl
section
variable (p:Program) (cq:FuncId→Bool)
def Uv(τ:Tm)(σ:ae)(op:lV)(v:AV)(σ':ae):Prop:=DD p cq ⟨τ,σ,0,none⟩ op v σ'
end
variable {p:Program} {cq:FuncId→Bool}
theorem TS{σ σ':ae}(h:Alike σ σ')(a:AV):OO σ a=OO σ' a:=by
 cases a with
 |sl b n=>simp only[OO];rcases h.at b with⟨h1,h2⟩|⟨_,_,_,_,h1,h2⟩|⟨_,_,_,_,h1,h2⟩|⟨_,_,_,h1,h2⟩|⟨_,h1,h2⟩<;>simp only[h1,h2]
 |p v=>cases v<;>rfl
 |_=>rfl
theorem Td{op:lV}(hk:op.kind cq=.q0){σ σ':ae}{τ:Tm}{v:AV}(h:plain σ τ op=some (v,σ')):σ'=σ∧∀σ2,plain σ2 τ op=some (v,σ2):=by
 have quietly:plain σ τ op=(quiet σ τ op).map (fun v=>(v,σ))→(∀σ2,plain σ2 τ op=(quiet σ τ op).map fun v=>(v,σ2))→σ'=σ∧∀σ2,plain σ2 τ op=some (v,σ2):=by
  intro h1 h2;rw[h1]at h;simp only[gE,pY]at h;obtain⟨u,hu,rfl,rfl⟩:=h;exact⟨rfl,fun σ2=>by rw[h2,hu];rfl⟩
 cases op<;>simp only[lV.kind,reduceCtorEq]at hk
 case mv x eg=>
  cases eg with
  |true=>simp at hk
  |false=>
   simp only[plain]at h ⊢;split at h
   ·rename_i he
    simp only[nh,if_false,bL,pY]at h;obtain⟨rfl,rfl⟩:=h;exact⟨rfl,fun σ2=>by simp⟩
   ·rename_i u hne
    simp only[bL,pY]at h;obtain⟨rfl,rfl⟩:=h;exact⟨rfl,fun σ2=>rfl⟩
 case dW f as=>split at hk<;>cases hk
 case jY es z n ps=>
  simp only[plain,gE,pY]at h;obtain⟨qs,h1,rfl,rfl⟩:=h;exact⟨rfl,fun σ2=>by simp only[plain,h1];rfl⟩
 all_goals exact quietly rfl (fun _=>rfl)
theorem Qe {op:lV} (hk:op.kind cq=.q) {σ σ':ae} {τ:Tm} {v:AV} (h:plain σ τ op=some (v,σ')):σ'=σ∧(∀ σ2,Alike σ σ2→plain σ2 τ op=some (v,σ2))∧∀ ext,plain (σ++ext) τ op=some (v,σ++ext):=by
  have quietly:plain σ τ op=(quiet σ τ op).map (fun v=>(v,σ))→(∀ σ2,plain σ2 τ op=(quiet σ2 τ op).map fun v=>(v,σ2))→(∀ σ2,Alike σ σ2→quiet σ τ op=quiet σ2 τ op)→(∀ ext u,quiet σ τ op=some u→quiet (σ++ext) τ op=some u) →
      σ'=σ∧(∀ σ2,Alike σ σ2→plain σ2 τ op=some (v,σ2))∧∀ ext,plain (σ++ext) τ op=some (v,σ++ext):=by
    intro h1 h2 h3 h4;rw [h1] at h
    simp only [gE,pY] at h
    obtain ⟨u,hu,rfl,rfl⟩:=h
    exact ⟨rfl,fun σ2 ha=>by rw [h2,← h3 σ2 ha,hu];rfl,fun ext=>by rw [h2,h4 ext u hu];rfl⟩
  have app:∀ (ext:ae) (b:Nat) (o:Obj),σ[b]? = some o→(σ++ext)[b]? = some o:=fun ext b o ho=>by rw [ym (gu.1 ho).1];exact ho
  cases op<;>simp only [lV.kind,reduceCtorEq] at hk
  case mv x eg=>cases eg<;>simp at hk
  case dW f as=>split at hk<;>cases hk
  case load s g x=>
    refine quietly rfl (fun _=>rfl) (fun σ2 ha=>S1 ha s g _) (fun ext u hu=>?_)
    simp only [quiet] at hu ⊢
    generalize x.val τ=xv at hu;cases xv with
    | ptr b n i o=>
      simp only [gM] at hu ⊢
      cases hb:σ[b]? with
      | none=>rw [hb] at hu;cases hu
      | some ob=>
        have e:(σ++ext)[b]? = σ[b]? := by { rw [hb];exact app ext b ob hb }
        simp only [e]
        exact hu
    | p q=>cases q<;>exact hu
    | _=>exact hu
  case aA es x i=>
    refine quietly rfl (fun _=>rfl) (fun σ2 ha=>?_) (fun ext u hu=>?_)
    · simp only [quiet,Xa ha]
    · simp only [quiet] at hu ⊢
      cases hn:mm (i.val τ) with
      | none=>rw [hn] at hu;cases hu
      | some n=>
        rw [hn] at hu
        simp only [xu] at hu ⊢
        generalize x.val τ=xv at hu;cases xv with
        | sl b m=>
          simp only [NO] at hu ⊢
          cases hb:σ[b]? with
          | none=>simp only [hb,Option.bind_none] at hu;simp at hu
          | some ob => have e : (σ ++ ext)[b]? = σ[b]? := by { rw [hb]; exact app ext b ob hb }
                       simp only [e];exact hu
        | p q=>cases q<;>exact hu
        | _=>exact hu
  case IW es x lo hi mx=>exact quietly rfl (fun _=>rfl) (fun _ _=>rfl) (fun _ _ hu=>hu)
  case lookup kl z x k ok=>
    refine quietly rfl (fun _=>rfl) (fun σ2 ha=>?_) (fun ext u hu=>?_)
    · simp only [quiet]
      generalize x.val τ=xv;cases xv with
      | map b=>rcases ha.at b with ⟨h1,h2⟩ | ⟨_,_,_,_,h1,h2⟩ | ⟨_,_,_,_,h1,h2⟩ | ⟨_,_,_,h1,h2⟩ | ⟨_,h1,h2⟩<;>simp only [h1,h2]
      | p q=>cases q<;>rfl
      | _=>rfl
    · simp only [quiet] at hu ⊢
      generalize x.val τ=xv at hu;cases xv with
      | map b=>
        cases hb:σ[b]? with
        | none=>
          simp only [hb] at hu
          split at hu
          · split at hu
            · cases hu
            · cases hu
          · cases hu
        | some ob=>
        have e:(σ++ext)[b]? = σ[b]? := by { rw [hb];exact app ext b ob hb }
        simp only [e]
        exact hu
      | p q=>cases q<;>exact hu
      | _=>exact hu
  case bV x=>
    refine quietly rfl (fun _=>rfl) (fun σ2 ha=>by simp only [quiet,V1 ha]) (fun ext u hu=>?_)
    simp only [quiet] at hu ⊢
    generalize x.val τ=xv at hu;cases xv with
    | sl b n=>
      simp only [bV,W5] at hu ⊢
      cases hb:σ[b]? with
      | none=>simp [hb] at hu
      | some ob=>
        have e:(σ++ext)[b]? = σ[b]? := by { rw [hb];exact app ext b ob hb }
        simp only [e]
        exact hu
    | p q=>cases q<;>exact hu
    | _=>exact hu
  case yw x=>
    refine quietly rfl (fun _=>rfl) (fun σ2 ha=>by simp only [quiet,VZ ha]) (fun ext u hu=>?_)
    simp only [quiet] at hu ⊢
    generalize x.val τ=xv at hu;cases xv with
    | map b=>
      simp only [yw] at hu ⊢
      cases hb:σ[b]? with
      | none=>rw [hb] at hu;cases hu
      | some ob=>
        have e:(σ++ext)[b]? = σ[b]? := by { rw [hb];exact app ext b ob hb }
        simp only [e]
        exact hu
    | p q=>cases q<;>exact hu
    | _=>exact hu
  case b2s x=>
    refine quietly rfl (fun _=>rfl) (fun σ2 ha=>by simp only [quiet,TS ha]) (fun ext u hu=>?_)
    simp only [quiet] at hu ⊢
    generalize x.val τ=xv at hu;cases xv with
    | sl b n=>
      simp only [OO] at hu ⊢
      cases hb:σ[b]? with
      | none=>rw [hb] at hu;cases hu
      | some ob=>
        have e:(σ++ext)[b]? = σ[b]? := by { rw [hb];exact app ext b ob hb }
        simp only [e]
        exact hu
    | p q=>cases q<;>exact hu
    | _=>exact hu
theorem Lr{i:fG}{σ σ':ae}{τ:Tm}{v:AV}(hp:eJ τ i=true)(h:plain σ τ i.op=some (v,σ')):σ'=σ∧∀σ2,plain σ2 τ i.op=some (v,σ2):=by
 obtain⟨d,op,g⟩:=i
 have quietly:plain σ τ op=(quiet σ τ op).map (fun v=>(v,σ))→(∀σ2,plain σ2 τ op=(quiet σ τ op).map fun v=>(v,σ2))→σ'=σ∧∀σ2,plain σ2 τ op=some (v,σ2):=by
  intro h1 h2;rw[show plain σ τ (fG.mk d op g).op=plain σ τ op from rfl,h1]at h;simp only[gE,pY]at h;obtain⟨u,hu,rfl,rfl⟩:=h;exact⟨rfl,fun σ2=>by rw[h2,hu];rfl⟩
 have c:∀x:O,(match x.val τ with|.p _=>true|_=>false)=true→∃q,x.val τ=.p q:=by
  intro x hx;split at hx
  ·exact⟨_,by assumption⟩
  ·cases hx
 cases op<;>simp only[eJ,nh]at hp
 case load s g' x=>
  obtain⟨q,hq⟩:=c x hp;exact quietly rfl fun σ2=>by simp only[plain,quiet,hq];cases q<;>rfl
 case aA es x i=>
  obtain⟨q,hq⟩:=c x hp;exact quietly rfl fun σ2=>by simp only[plain,quiet,hq];cases q<;>rfl
 case IW es x lo hi mx=>exact quietly rfl fun σ2=>rfl
 case lookup kl z x k ok=>
  obtain⟨q,hq⟩:=c x hp;exact quietly rfl fun σ2=>by simp only[plain,quiet,hq];cases q<;>rfl
 case bV x=>
  obtain⟨q,hq⟩:=c x hp;exact quietly rfl fun σ2=>by simp only[plain,quiet,hq];cases q<;>rfl
 case yw x=>
  obtain⟨q,hq⟩:=c x hp;exact quietly rfl fun σ2=>by simp only[plain,quiet,hq];cases q<;>rfl
 case b2s x=>
  obtain⟨q,hq⟩:=c x hp;exact quietly rfl fun σ2=>by simp only[plain,quiet,hq];cases q<;>rfl
theorem X7 {op:lV} (hk:op.kind cq=.a) {σ σ':ae} {τ:Tm} {v:AV} (h:plain σ τ op=some (v,σ')):∃ ext,σ'=σ++ext∧∀ σ2:ae,σ2.length=σ.length→plain σ2 τ op=some (v,σ2++ext):=by
  have eag:∀ (cs:List AV) (σ:ae),∃ ext,(aT cs σ).2=σ++ext∧∀ σ2:ae,σ2.length=σ.length→(aT cs σ2).1=(aT cs σ).1∧(aT cs σ2).2=σ2++ext:=by
    intro cs
    induction cs with
    | nil=>intro σ;exact ⟨[],by simp [aT],fun σ2 _=>by simp [aT]⟩
    | cons c cs ih=>
      intro σ
      cases c<;>first
        | (obtain ⟨ext,he,h2⟩:=ih σ
           exact ⟨ext,by simpa [aT] using he,fun σ2 hl=>by simpa [aT] using h2 σ2 hl⟩)
        | (obtain ⟨ext,he,h2⟩:=ih (σ++[.pv 0 [] false])
           refine ⟨.pv 0 [] false :: ext,by simp [aT,he],fun σ2 hl=>?_⟩
           have:=h2 (σ2++[.pv 0 [] false]) (by simp [hl])
           simp [aT,this.1,this.2,hl])
  have var:∀ (cs:List AV) (n:Nat),∃ ext,(aT cs σ).2++[mkObj n (aT cs σ).1]=σ++ext∧∀ σ2:ae,σ2.length=σ.length→(aT cs σ2).2.length=(aT cs σ).2.length∧(aT cs σ2).2++[mkObj n (aT cs σ2).1]=σ2++ext:=by
    intro cs n
    obtain ⟨ext,he,h2⟩:=eag cs σ
    refine ⟨ext++[mkObj n (aT cs σ).1],by rw [he,Ux],fun σ2 hl=>?_⟩
    obtain ⟨h3,h4⟩:=h2 σ2 hl
    exact ⟨by rw [h4,he,mh,mh,hl],by rw [h3,h4,Ux]⟩
  cases op<;>simp only [lV.kind,reduceCtorEq] at hk
  case mv x eg=>
    cases eg with
    | false=>simp at hk
    | true=>
      simp only [plain] at h ⊢
      split at h
      · rename_i hx
        simp only [if_true,bL,pY] at h
        obtain ⟨rfl,rfl⟩:=h
        exact ⟨_,rfl,fun σ2 hl=>by simp [hl]⟩
      · rename_i u hx
        simp only [bL,pY] at h
        obtain ⟨rfl,rfl⟩:=h
        exact ⟨[],by simp,fun σ2 _=>by simp⟩
  case dW f as=>split at hk<;>cases hk
  case alloc z s=>
    simp only [plain,bL,pY] at h ⊢
    obtain ⟨rfl,rfl⟩:=h
    obtain ⟨ext,he,h2⟩:=var z s
    exact ⟨ext,he,fun σ2 hl=>⟨by rw [(h2 σ2 hl).1],(h2 σ2 hl).2⟩⟩
  case init s g x ro=>
    simp only [plain,fM] at h ⊢
    obtain ⟨cs,hcs,h⟩:=h
    split at h
    · rename_i hro
      split at h
      · rename_i ps hps
        simp only [bL,pY] at h
        obtain ⟨rfl,rfl⟩:=h
        exact ⟨[],by simp,fun σ2 _=>⟨cs,hcs,by simp [hro,hps]⟩⟩
      · rename_i hps
        simp only [bL,pY] at h
        obtain ⟨rfl,rfl⟩:=h
        exact ⟨_,rfl,fun σ2 hl=>⟨cs,hcs,by simp [hro,hps,hl]⟩⟩
    · rename_i hro
      simp only [bL,pY] at h
      obtain ⟨rfl,rfl⟩:=h
      obtain ⟨ext,he,h2⟩:=var cs s
      exact ⟨ext,he,fun σ2 hl=>⟨cs,hcs,by rw [if_neg hro];simp only [bL,pY];exact ⟨by rw [(h2 σ2 hl).1],(h2 σ2 hl).2⟩⟩⟩
  case box s g x ro=>
    simp only [plain,fM] at h ⊢
    obtain ⟨cs,hcs,h⟩:=h
    split at h
    · rename_i hro
      split at h
      · rename_i ps hps
        simp only [bL,pY] at h
        obtain ⟨rfl,rfl⟩:=h
        exact ⟨[],by simp,fun σ2 _=>⟨cs,hcs,by simp [hro,hps]⟩⟩
      · rename_i hps
        simp only [bL,pY] at h
        obtain ⟨rfl,rfl⟩:=h
        exact ⟨_,rfl,fun σ2 hl=>⟨cs,hcs,by simp [hro,hps,hl]⟩⟩
    · rename_i hro
      simp only [bL,pY] at h
      obtain ⟨rfl,rfl⟩:=h
      obtain ⟨ext,he,h2⟩:=var cs s
      exact ⟨ext,he,fun σ2 hl=>⟨cs,hcs,by rw [if_neg hro];simp only [bL,pY];exact ⟨by rw [(h2 σ2 hl).1],(h2 σ2 hl).2⟩⟩⟩
  case fB es z n ps=>
    simp only [plain,gE,pY] at h ⊢
    obtain ⟨cs,h1,rfl,rfl⟩:=h
    exact ⟨_,rfl,fun σ2 hl=>⟨cs,h1,by rw [hl],rfl⟩⟩
  case Bq=>
    simp only [plain,bL,pY] at h ⊢
    obtain ⟨rfl,rfl⟩:=h
    exact ⟨_,rfl,fun σ2 hl=>⟨by rw [hl],rfl⟩⟩
  case uh es b z l c=>
    simp only [plain,fM] at h ⊢
    obtain ⟨l',h1,c',h2,h⟩:=h
    split at h
    · rename_i hle
      split at h
      · rename_i zz hz
        simp only [bL,pY] at h
        obtain ⟨rfl,rfl⟩:=h
        exact ⟨_,rfl,fun σ2 hl=>⟨l',h1,c',h2,by simp [hle,hl]⟩⟩
      · rename_i hz
        simp only [bL,pY] at h
        obtain ⟨rfl,rfl⟩:=h
        exact ⟨_,rfl,fun σ2 hl=>⟨l',h1,c',h2,by simp only [hle,and_self,if_true,hl]⟩⟩
    · cases h
theorem dt{τ:Tm}{σ σ':ae}{op:lV}{v:AV}(hc:op.dV=false):Uv p cq τ σ op v σ'↔plain σ τ op=some (v,σ'):=by
 unfold Uv DD;split
 ·simp[lV.dV]at hc
 ·simp[lV.dV]at hc
 ·simp[lV.dV]at hc
 ·rfl
theorem tr{op:lV}(h:op.kind cq=.q0∨op.kind cq=.q∨op.kind cq=.a):op.dV=false:=by
 cases op<;>first|rfl|skip
 ·simp only[lV.kind]at h
  split at h<;>simp at h
 ·simp[lV.kind]at h
 ·simp[lV.kind]at h
theorem PS{σ ext:ae}{b:Nat}(h:b<σ.length):dD (σ++ext) b=dD σ b++ext:=by
 unfold dD;rw[ym h];cases σ[b]? with
 |none=>rfl
 |some o=>cases o<;>simp only[List.set_append_left _ _ h]
theorem EB{σ:ae}{b:Nat}:(dD σ b).length=σ.length:=by unfold dD;split<;>simp
theorem C0:∀{L:List Nat} {σ:ae},(bF σ L).length=σ.length
 | [],_=>rfl
 |b::L,σ=>by rw[bF,C0,EB]
theorem CZ:∀{L:List Nat} {σ ext:ae},(∀b∈L,b<σ.length)→bF (σ++ext) L=bF σ L++ext
 | [],_,_,_=>rfl
 |b::L,σ,ext,h=>by
  rw[bF,bF,PS (h b (by simp))]
  exact CZ fun c hc=>by rw[EB];exact h c (by simp[hc])
theorem sm{α β:Type}{f:α→Option β}:∀{l:List α} {r:List β},omap f l=some r→∀a∈l,∃b,f a=some b
 | [],_,_,a,ha=>by simp at ha
 |x::l,r,h,a,ha=>by
  simp only[omap]at h;split at h
  ·rename_i b hb
   split at h
   ·rename_i bs hbs
    rcases qL.1 ha with rfl|ha
    ·exact⟨b,hb⟩
    ·exact sm hbs a ha
   ·cases h
  ·cases h
theorem EA{α β:Type}{f g:α→List β}{l:List α}(h:∀a∈l,f a=g a):l.flatMap f=l.flatMap g:=by
 rw[List.flatMap_def,List.flatMap_def,ab2 h]
def acM(σ ext:ae)(k:Nat)(l:List AV):Prop:=omap (az (σ++ext) k) l=omap (az σ k) l∧l.flatMap (refs (σ++ext) k)=l.flatMap (refs σ k)∧∀b∈l.flatMap (refs σ k),b<σ.length
theorem DX{σ:ae}(ext:ae):∀(k:Nat) (v:AV) (q:PV),az σ k v=some q→az (σ++ext) k v=some q∧refs (σ++ext) k v=refs σ k v∧∀b∈refs σ k v,b<σ.length:=by
 intro k
 induction k with
 |zero=>intro v q h;cases h
 |succ k ih=>
  intro v q h;have app:∀(b:Nat) (o:Obj),σ[b]?=some o→(σ++ext)[b]?=some o∧b<σ.length:=fun b o ho=>⟨by rw[ym (gu.1 ho).1];exact ho,(gu.1 ho).1⟩
  have list:∀(l:List AV) (r:List PV),omap (az σ k) l=some r→acM σ ext k l:=by
   intro l r hr;refine⟨xf fun a ha=>?_,EA fun a ha=>?_,fun b hb=>?_⟩
   ·obtain⟨b,hb⟩:=sm hr a ha
    rw[hb,(ih a b hb).1]
   ·obtain⟨b,hb⟩:=sm hr a ha
    exact(ih a b hb).2.1
   ·obtain⟨a,ha,hb⟩:=Mz.1 hb
    obtain⟨q',hq'⟩:=sm hr a ha;exact(ih a q' hq').2.2 b hb
  cases v with
  |any=>cases h
  |yield l=>cases h
  |p q'=>exact⟨h,rfl,by simp[refs]⟩
  |aF=>exact⟨h,rfl,by simp[refs]⟩
  |fn f cap=>
   simp only[az]at h;obtain⟨r,hr,rfl⟩:=gE.1 h;obtain⟨l1,l2,l3⟩:=list cap r hr;exact⟨by simp only[az,l1,hr];rfl,by simp only[refs];exact l2,by simp only[refs];exact l3⟩
  |agg cs=>
   simp only[az]at h;obtain⟨r,hr,rfl⟩:=gE.1 h;obtain⟨l1,l2,l3⟩:=list cs r hr;exact⟨by simp only[az,l1,hr];rfl,by simp only[refs];exact l2,by simp only[refs];exact l3⟩
  |jO cs=>
   simp only[az]at h;obtain⟨r,hr,rfl⟩:=gE.1 h;obtain⟨l1,l2,l3⟩:=list cs r hr;exact⟨by simp only[az,l1,hr];rfl,by simp only[refs];exact l2,by simp only[refs];exact l3⟩
  |sl b n=>
   simp only[az]at h;cases ho:σ[b]? with
   |none=>simp[ho]at h
   |some o=>
    obtain⟨h1,hlt⟩:=app b o ho;simp only[ho]at h;cases o with
    |pv es rows f=>exact⟨by simp only[az,h1];exact h,by simp only[refs,h1,ho],by simp only[refs,ho];intro c hc;rw[Uz]at hc;rw[hc];exact hlt⟩
    |av es rows f=>
     simp only at h
     split at h
     ·rename_i hl
      obtain⟨rs,hrs,rfl⟩:=gE.1 h;have e:∀r∈rows,acM σ ext k r:=fun r hr=>by obtain⟨x,hx⟩:=sm hrs r hr;exact list r x hx
      refine⟨?_,?_,?_⟩
      ·simp only[az,h1]
       rw[if_pos hl,xf (fun r hr=>(e r hr).1),hrs];rfl
      ·simp only[refs,h1,ho]
       rw[EA fun r hr=>(e r hr).2.1]
      ·simp only[refs,ho]
       intro c hc;rcases qL.1 hc with rfl|hc
       ·exact hlt
       ·obtain⟨r,hr,hc⟩:=Mz.1 hc
        exact(e r hr).2.2 c hc
     ·cases h
    |map=>cases h
    |loop=>cases h
    |gone=>cases h
  |ptr b n i oo=>
   simp only[az]at h;cases ho:σ[b]? with
   |none=>simp[ho]at h
   |some o=>
    obtain⟨h1,hlt⟩:=app b o ho;simp only[ho]at h;cases o with
    |pv es rows f=>exact⟨by simp only[az,h1];exact h,by simp only[refs,h1,ho],by simp only[refs,ho];intro c hc;rw[Uz]at hc;rw[hc];exact hlt⟩
    |av es rows f=>
     simp only at h
     split at h
     ·rename_i hl
      obtain⟨row,hrow,h⟩:=fM.1 h;obtain⟨rs,hrs,rfl⟩:=gE.1 h;have e:=list row rs hrs;refine⟨?_,?_,?_⟩
      ·simp only[az,h1]
       rw[if_pos hl,hrow,xu,e.1,hrs];rfl
      ·simp only[refs,h1,ho,hrow,Q2]
       rw[e.2.1]
      ·simp only[refs,ho,hrow,Q2]
       intro c hc;rcases qL.1 hc with rfl|hc
       ·exact hlt
       ·exact e.2.2 c hc
     ·cases h
    |map=>cases h
    |loop=>cases h
    |gone=>cases h
  |map b=>
   simp only[az]at h;cases ho:σ[b]? with
   |none=>simp[ho]at h
   |some o=>
    obtain⟨h1,hlt⟩:=app b o ho;simp only[ho]at h;cases o with
    |map es f=>
     simp only at h
     obtain⟨rs,hrs,rfl⟩:=gE.1 h
     have e:∀x∈es,∃q,az σ k x.2=some q:=fun x hx=>by
      obtain⟨y,hy⟩:=sm hrs x hx;obtain⟨q,hq,_⟩:=gE.1 hy;exact⟨q,hq⟩
     refine⟨?_,?_,?_⟩
     ·simp only[az,h1]
      rw[xf (g:=fun e:PV×AV=>(az σ k e.2).map fun r=>(e.1,r)) fun x hx=>by obtain⟨q,hq⟩:=e x hx;rw[hq,(ih _ q hq).1],hrs];rfl
     ·simp only[refs,h1,ho]
      rw[EA fun x hx=>by obtain⟨q,hq⟩:=e x hx;exact(ih _ q hq).2.1]
     ·simp only[refs,ho]
      intro c hc;rcases qL.1 hc with rfl|hc
      ·exact hlt
      ·obtain⟨x,hx,hc⟩:=Mz.1 hc
       obtain⟨q,hq⟩:=e x hx;exact(ih _ q hq).2.2 c hc
    |_=>cases h
theorem BW{σ:ae}(ext:ae){l:List AV}{r:List PV}{k:Nat}(hr:omap (az σ k) l=some r):acM σ ext k l:=by
 refine⟨xf fun a ha=>?_,EA fun a ha=>?_,fun b hb=>?_⟩
 ·obtain⟨b,hb⟩:=sm hr a ha
  rw[hb,(DX ext k a b hb).1]
 ·obtain⟨b,hb⟩:=sm hr a ha
  exact(DX ext k a b hb).2.1
 ·obtain⟨a,ha,hb⟩:=Mz.1 hb
  obtain⟨q',hq'⟩:=sm hr a ha;exact(DX ext k a q' hq').2.2 b hb
theorem aeI{op:lV}(hk:op.kind cq=.c){τ:Tm}{σ σ':ae}{v:AV}(h:Uv p cq τ σ op v σ'):∃L:List Nat,σ'=bF σ L∧(∀σ2,Alike σ σ2→Uv p cq τ σ2 op v (bF σ2 L))∧∀ext,Uv p cq τ (σ++ext) op v (bF σ L++ext):=by
 cases op<;>simp only[lV.kind,reduceCtorEq]at hk
 case mv x eg=>cases eg<;>simp at hk
 case dW f as=>
  split at hk
  ·rename_i hcq
   have h':jR p cq f (as.map (·.val τ)) σ v σ':=h;rcases h' with⟨ps,r,h1,h2,h3,h4⟩|⟨h1,_⟩
   ·have hp:∀σ2,Alike σ σ2→omap (az σ2 depth) (as.map (·.val τ))=some ps:=fun σ2 ha=>by
     rw[←h1];exact(xf (fun x _=>Qj ha depth x)).symm
    have hr:∀σ2,Alike σ σ2→(as.map (·.val τ)).flatMap (refs σ2 depth)=(as.map (·.val τ)).flatMap (refs σ depth):=fun σ2 ha=>by
     have:refs σ2 depth=refs σ depth:=funext fun x=>(WO ha depth x).symm
     rw[this]
    by_cases hf:r.flat=true
    ·refine⟨[],by rw[h4];simp[dR,hf,bF],fun σ2 ha=>?_,fun ext=>.inl ⟨ps,r,(BW ext h1).1.trans h1,h2,h3,by simp[dR,hf,bF]⟩⟩
     exact .inl ⟨ps,r,hp σ2 ha,h2,h3,by simp[dR,hf,bF]⟩
    ·refine⟨(as.map (·.val τ)).flatMap (refs σ depth),by rw[h4];simp[dR,hf],fun σ2 ha=>?_,fun ext=>.inl ⟨ps,r,(BW ext h1).1.trans h1,h2,h3,?_⟩⟩
     rotate_left
     ·obtain⟨_,a2,a3⟩:=BW ext h1
      have:dR (σ++ext) (as.map (·.val τ)) r=bF (σ++ext) ((as.map (·.val τ)).flatMap (refs (σ++ext) depth)):=by simp[dR,hf]
      rw[show(({ τ:=τ,σ:=σ++ext,nt:=0,rd:=none }:St).σ)=σ++ext from rfl,this,a2];exact(CZ a3).symm
     refine .inl ⟨ps,r,hp σ2 ha,h2,h3,?_⟩;have:dR σ2 (as.map (·.val τ)) r=bF σ2 ((as.map (·.val τ)).flatMap (refs σ2 depth)):=by simp[dR,hf]
     rw[show(({ τ:=τ,σ:=σ2,nt:=0,rd:=none }:St).σ)=σ2 from rfl,this,hr σ2 ha]
   ·rw[hcq]at h1;cases h1
  ·cases hk
theorem agO{x y:lV}{τ:Tm}{σ σ1 σ2:ae}{vx vy:AV}(hx:Uv p cq τ σ x vx σ1)(hy:Uv p cq τ σ1 y vy σ2)(hk:ER (x.kind cq) (y.kind cq)=true):∃σ1',Uv p cq τ σ y vy σ1'∧Uv p cq τ σ1' x vx σ2:=by
 by_cases hx0:x.kind cq=.q0
 ·have hc:=tr (.inl hx0)
  obtain⟨rfl,h⟩:=Td hx0 ((dt hc).1 hx);exact⟨σ2,hy,(dt hc).2 (h σ2)⟩
 by_cases hy0:y.kind cq=.q0
 ·have hc:=tr (.inl hy0)
  obtain⟨rfl,h⟩:=Td hy0 ((dt hc).1 hy);exact⟨σ,(dt hc).2 (h σ),hx⟩
 cases hkx:x.kind cq with
 |q0=>exact absurd hkx hx0
 |q=>
  have hc:=tr (.inr (.inl hkx));obtain⟨rfl,h1,h2⟩:=Qe hkx ((dt hc).1 hx);cases hky:y.kind cq with
  |q0=>exact absurd hky hy0
  |q=>
   obtain⟨rfl,_,_⟩:=Qe hky ((dt (tr (.inr (.inl hky)))).1 hy);exact⟨_,hy,hx⟩
  |c=>
   obtain⟨L,rfl,_⟩:=aeI hky hy;exact⟨_,hy,(dt hc).2 (h1 _ (qB _ L))⟩
  |a=>
   obtain⟨ext,rfl,_⟩:=X7 hky ((dt (tr (.inr (.inr hky)))).1 hy);exact⟨_,hy,(dt hc).2 (h2 ext)⟩
  |w=>rw[hkx,hky]at hk;cases hk
 |c=>
  obtain⟨L,rfl,h1,h1e⟩:=aeI hkx hx;cases hky:y.kind cq with
  |q0=>exact absurd hky hy0
  |q=>
   have hc:=tr (.inr (.inl hky));obtain⟨rfl,h2,_⟩:=Qe hky ((dt hc).1 hy);exact⟨σ,(dt hc).2 (h2 _ (qB σ L).symm),hx⟩
  |c=>
   obtain⟨L',rfl,h2,_⟩:=aeI hky hy;refine⟨bF σ L',h2 σ (qB σ L).symm,?_⟩;have:=h1 (bF σ L') (qB σ L');rw[KH]at this;exact this
  |a=>
   have hc:=tr (.inr (.inr hky));obtain⟨ext,rfl,h2⟩:=X7 hky ((dt hc).1 hy);exact⟨σ++ext,(dt hc).2 (h2 σ C0.symm),h1e ext⟩
  |w=>rw[hkx,hky]at hk;cases hk
 |a=>
  cases hky:y.kind cq with
  |q0=>exact absurd hky hy0
  |_=>rw[hkx,hky]at hk;cases hk
 |w=>
  cases hky:y.kind cq with
  |q0=>exact absurd hky hy0
  |_=>rw[hkx,hky]at hk;cases hk
theorem Of:∀{cs:List AV} {σ:ae},(∀c∈cs,c≠.aF)→aT cs σ=(cs,σ)
 | [],σ,_=>rfl
 |c::cs,σ,h=>by
  have ih:=Of (cs:=cs) (σ:=σ) (fun x hx=>h x (by simp[hx]))
  cases c with
  |aF=>exact absurd rfl (h .aF (by simp))
  |_=>simp only[aT,ih]
theorem Py{s:Nat}{g:Bool}{v:AV}{cs:List AV}(hn:xc v=true)(h:cellsOf s g v=some cs):∀c∈cs,c≠.aF:=by
 intro c hc;unfold cellsOf at h;split at h
 ·split at h
  ·split at h
   ·cases h
    obtain⟨q,_,rfl⟩:=CV.1 hc;simp
   ·cases h
  ·split at h
   ·cases h
    simp only[xc,AS]at hn;have:=hn c hc
    rintro rfl
    simp at this
   ·cases h
  ·cases h
 ·split at h
  ·cases h
  ·cases h
  ·cases h
  ·cases h
  ·cases h
  ·cases h
   rw[Uz]at hc;subst hc
   rintro rfl
   simp[xc]at hn
theorem W3{σ σ':ae}{b n i o:Nat}{new:List AV}(h:setRow σ b n i o new=some σ'):∃ob,σ'=σ.set b ob∧∀σ2:ae,σ2[b]?=σ[b]? → setRow σ2 b n i o new=some (σ2.set b ob):=by
 unfold setRow at h;split at h
 ·rename_i es rows ho
  split at h
  ·rename_i hl
   obtain⟨r,hr,h⟩:=fM.1 h;split at h
   ·rename_i ps hps
    obtain⟨r',hr',rfl⟩:=gE.1 h;exact⟨_,rfl,fun σ2 h2=>by unfold setRow;simp only[h2,ho,hl,if_true,hr,xu,hps,hr',vd]⟩
   ·rename_i hps
    obtain⟨r',hr',rfl⟩:=gE.1 h;exact⟨_,rfl,fun σ2 h2=>by unfold setRow;simp only[h2,ho,hl,if_true,hr,xu,hps,hr',vd]⟩
  ·cases h
 ·rename_i es rows ho
  split at h
  ·rename_i hl
   obtain⟨r,hr,h⟩:=fM.1 h;obtain⟨r',hr',rfl⟩:=gE.1 h;exact⟨_,rfl,fun σ2 h2=>by unfold setRow;simp only[h2,ho,hl,if_true,hr,xu,hr',vd]⟩
  ·cases h
 ·cases h
theorem OI{i:fG}{σ σ':ae}{τ:Tm}{v:AV}{b:Nat}(hb:uP τ i=some b)(h:plain σ τ i.op=some (v,σ')) :
  (σ'=σ∨∃ob,σ'=σ.set b ob)∧∀σ2:ae,σ2[b]?=σ[b]? → plain σ2 τ i.op=some (v,σ2)∧σ'=σ∨∃ob,σ'=σ.set b ob∧plain σ2 τ i.op=some (v,σ2.set b ob):=by
 obtain⟨d,op,g⟩:=i;cases op<;>simp only[uP,reduceCtorEq]at hb
 case store s a x=>
  split at hb
  ·rename_i b' n j o ha
   split at hb
   ·rename_i hn
    simp only[bL]at hb;subst hb;simp only[plain,gE,pY]at h;obtain⟨σ1,hs,rfl,rfl⟩:=h;simp only[eE,ha]at hs;split at hs
    ·rename_i cs hcs
     split at hs
     ·rename_i hl
      have he:=fun σ:ae=>Of (σ:=σ) (Py hn hcs)
      rw[he]at hs;obtain⟨ob,rfl,h2⟩:=W3 hs;refine⟨.inr ⟨ob,rfl⟩,fun σ2 hσ=>.inr ⟨ob,rfl,?_⟩⟩
      have e2:eE σ2 s (a.val τ) (x.val τ)=some (σ2.set b' ob):=by
       simp only[eE,ha,hcs,hl,if_true,he];exact h2 σ2 hσ
      simp only[plain,e2];rfl
     ·cases hs
    ·cases hs
   ·cases hb
  ·cases hb
 case aA es x y=>
  split at hb
  ·rename_i b' n hx
   simp only[bL]at hb;subst hb;simp only[plain,gE,pY]at h;obtain⟨u,hu,rfl,rfl⟩:=h;refine⟨.inl rfl,fun σ2 hσ=>.inl ⟨?_,rfl⟩⟩
   have e2:quiet σ2 τ (.aA es x y)=some u:=by
    rw[←hu];simp only[quiet,hx,NO,hσ];rfl
   simp only[plain,e2];rfl
  ·cases hb
theorem Rq{τ:Tm}{i:fG}{b:Nat}(h:uP τ i=some b):i.op.dV=false:=by
 obtain⟨d,op,g⟩:=i;cases op<;>first|rfl|(simp[uP]at h)
theorem OL{τ:Tm}{i:fG}(h:eJ τ i=true):i.op.dV=false:=by
 obtain⟨d,op,g⟩:=i;cases op<;>first|rfl|(simp[eJ]at h)
theorem adh{x y:fG}{τ:Tm}{σ σ1 σ2:ae}{vx vy:AV}(hx:Uv p cq τ σ x.op vx σ1)(hy:Uv p cq τ σ1 y.op vy σ2)(hk:jr τ x y=true):∃σ1',Uv p cq τ σ y.op vy σ1'∧Uv p cq τ σ1' x.op vx σ2:=by
 unfold jr at hk;simp only[OZ]at hk;rcases hk with(hk|hk)|hk
 ·have hc:=OL hk
  obtain⟨rfl,h⟩:=Lr hk ((dt hc).1 hx);exact⟨σ2,hy,(dt hc).2 (h σ2)⟩
 ·have hc:=OL hk
  obtain⟨rfl,h⟩:=Lr hk ((dt hc).1 hy);exact⟨σ,(dt hc).2 (h σ),hx⟩
 ·split at hk
  ·rename_i b b' h1 h2
   have hne:b≠b':=by simpa using hk
   have c1:=Rq h1;have c2:=Rq h2;have p1:=(dt (p:=p) (cq:=cq) c1).1 hx;have p2:=(dt (p:=p) (cq:=cq) c2).1 hy;obtain⟨k1,k2⟩:=OI h1 p1;obtain⟨k3,k4⟩:=OI h2 p2
   have e1:σ1[b']?=σ[b']? := by
    rcases k1 with rfl|⟨ob,rfl⟩
    ·rfl
    ·exact O0 hne
   rcases k4 σ e1.symm with⟨q1,rfl⟩|⟨ob,rfl,q1⟩
   ·exact⟨σ,(dt c2).2 q1,hx⟩
   ·refine⟨σ.set b' ob,(dt c2).2 q1,(dt c1).2 ?_⟩
    have e2:(σ.set b' ob)[b]?=σ[b]? := O0 (fun h=>hne h.symm)
    rcases k2 _ e2 with⟨q2,rfl⟩|⟨ob2,rfl,q2⟩
    ·exact q2
    ·rw[q2,List.set_comm _ _ hne]
  ·cases hk
section
variable {τ τ':Tm}
theorem val_congr{x:O}(h:∀t∈x.reads,τ.get t=τ'.get t):x.val τ=x.val τ':=by
 cases x with
 |t n=>exact h n (by simp[O.reads])
 |c v=>rfl
theorem xt{xs:List O}(h:∀t∈xs.flatMap O.reads,τ.get t=τ'.get t):xs.map (·.val τ)=xs.map (·.val τ') :=
 ab2 fun x hx=>val_congr fun t ht=>h t (Mz.2 ⟨x,hx,ht⟩)
theorem y6{x:Option O}(h:∀t∈y5 x,τ.get t=τ'.get t):x.map (O.val τ)=x.map (O.val τ'):=by
 cases x with
 |none=>rfl
 |some x=>simp only[vd,val_congr (x:=x) h]
theorem HT{β:Type}{ps:List (Nat×Nat×O)}(h:∀t∈ps.flatMap fun x=>x.2.2.reads,τ.get t=τ'.get t)(f:Nat×Nat×O→AV→β):ps.map (fun x=>f x (x.2.2.val τ))=ps.map (fun x=>f x (x.2.2.val τ')) :=
 ab2 fun x hx=>by rw[val_congr fun t ht=>h t (Mz.2 ⟨x,hx,ht⟩)]
theorem ZJ{σ σ':ae}{op:lV}{v:AV}(h:∀t∈op.reads,τ.get t=τ'.get t)(hf:Uv p cq τ σ op v σ'):Uv p cq τ' σ op v σ':=by
 cases op
 case dW f as=>
  have e:=xt (xs:=as) h;have hf':jR p cq f (as.map (·.val τ)) σ v σ':=hf;rw[e]at hf';exact hf'
 case CW f as=>
  have e:=xt (xs:=as) h;have hf':Cj p cq f (as.map (·.val τ)) σ v σ':=hf;rw[e]at hf';exact hf'
 case ox x as=>
  have e1:=val_congr (x:=x) fun t ht=>h t (F9 _ ht)
  have e2:=xt (xs:=as) fun t ht=>h t (Xq _ ht)
  have hf':Ck p cq (x.val τ) (as.map (·.val τ)) σ v σ':=hf;rw[e1,e2]at hf';exact hf'
 all_goals
  rw[dt rfl]at hf ⊢;rw[←hf]
  first
   |rfl
   |(rename_i x;simp only[plain,quiet,val_congr (x:=x) h];done)
   |(rename_i x _;simp only[plain,quiet,val_congr (x:=x) h];done)
   |(rename_i x _ _;simp only[plain,quiet,val_congr (x:=x) h];done)
   |(rename_i x y;simp only[plain,quiet,val_congr (x:=x) (fun t ht=>h t (F9 _ ht)),val_congr (x:=y) (fun t ht=>h t (Xq _ ht))];done)
   |(rename_i x y _;simp only[plain,quiet,val_congr (x:=x) (fun t ht=>h t (F9 _ ht)),val_congr (x:=y) (fun t ht=>h t (Xq _ ht))];done)
   |(rename_i x y z;simp only[plain,quiet,val_congr (x:=x) (fun t ht=>h t (F9 _ (F9 _ ht))),val_congr (x:=y) (fun t ht=>h t (F9 _ (Xq _ ht))),val_congr (x:=z) (fun t ht=>h t (Xq _ ht))];done)
   |(rename_i x lo hi;simp only[plain,quiet,val_congr (x:=x) (fun t ht=>h t (F9 _ (F9 _ ht))),y6 (x:=lo) (fun t ht=>h t (F9 _ (Xq _ ht))),y6 (x:=hi) (fun t ht=>h t (Xq _ ht))];done)
   |(rename_i x lo hi mx;simp only[plain,quiet,val_congr (x:=x) (fun t ht=>h t (F9 _ (F9 _ (F9 _ ht)))),y6 (x:=lo) (fun t ht=>h t (F9 _ (F9 _ (Xq _ ht)))),y6 (x:=hi) (fun t ht=>h t (F9 _ (Xq _ ht))),y6 (x:=mx) (fun t ht=>h t (Xq _ ht))];done)
   |(rename_i xs;simp only[plain,quiet];rw[←xt (xs:=xs) h];done)
   |(rename_i xs;simp only[plain,quiet];rw[show xs.map (O.val τ')=xs.map (O.val τ)from(xt (xs:=xs) h).symm];done)
   |(rename_i ps;simp only[plain,quiet];rw[←HT (ps:=ps) h (fun x v=>(x.1,x.2.1,v))];done)
   |(rename_i es z n ps;simp only[plain];rw[←HT (ps:=ps) h (fun x v=>(x.1*es,x.2.1,v))];done)
end
def D5(τ:Tm)(d:Option Nat)(v:AV):Tm :=
 match d with
 |none=>τ
 |some d=>jg τ d v
theorem I8{st st':St}{d:Option Nat}{v:AV}:st.put d v=some st'↔(∀k,d=some k→k<st.nt)∧st'={ st with τ:=D5 st.τ d v }:=by
 cases d with
 |none=>
  simp only[St.put,D5,bL,reduceCtorEq,false_implies,implies_true,true_and];exact⟨fun h=>h.symm,fun h=>h.symm⟩
 |some d=>
  simp only[St.put,D5,bL,forall_eq'];split
  ·rename_i h;simp[h,eq_comm]
  ·rename_i h;simp[h]
theorem OT{τ:Tm}{d d':Option Nat}{v v':AV}(h:∀k,d'=some k→d≠some k):D5 (D5 τ d v) d' v'=D5 (D5 τ d' v') d v:=by
 cases d with
 |none=>rfl
 |some a=>
  cases d' with
  |none=>rfl
  |some b=>
   have hne:a≠b:=fun hx=>h b rfl (by rw[hx])
   simp only[D5,jg]
   congr 1
   funext t
   by_cases h1:a=t<;>by_cases h2:b=t<;>simp[h1,h2]
   exact absurd (h1.trans h2.symm) hne
theorem xr{τ:Tm}{d:Option Nat}{v:AV}{t:Nat}(h:∀k,d=some k→k≠t):(D5 τ d v).get t=τ.get t:=by
 cases d with
 |none=>rfl
 |some d=>simp[D5,jg,h d rfl]
theorem QW{τ τ':Tm}{g:Option (Nat×Bool)}(h:∀t w,g=some (t,w)→τ.get t=τ'.get t):gS τ g=gS τ' g:=by
 cases g with
 |none=>rfl
 |some tw=>simp only[gS,h tw.1 tw.2 rfl]
def DC(p:Program)(cq:FuncId→Bool)(τ:Tm)(σ:ae)(i:fG)(v:AV)(σ':ae):Prop :=
 (gS τ i.guard=some true∧Uv p cq τ σ i.op v σ')∨(gS τ i.guard=some false∧v=.p (.jO [])∧σ'=σ)
theorem fi{i:fG}{st st':St}:iA p cq i st st'↔∃v σ',DC p cq st.τ st.σ i v σ'∧(∀k,i.dst=some k→k<st.nt)∧st'={ st with τ:=D5 st.τ i.dst v,σ:=σ' }:=by
 constructor
 ·rintro⟨w,hw,⟨rfl,v,σ',hf,hp⟩|⟨rfl,hp⟩⟩
  ·obtain⟨h1,h2⟩:=I8.1 hp
   exact⟨v,σ',.inl ⟨hw,hf⟩,h1,h2⟩
  ·obtain⟨h1,h2⟩:=I8.1 hp
   exact⟨_,st.σ,.inr ⟨hw,rfl,rfl⟩,h1,h2⟩
 ·rintro⟨v,σ',⟨hw,hf⟩|⟨hw,rfl,rfl⟩,h1,h2⟩
  ·exact⟨true,hw,.inl ⟨rfl,v,σ',hf,I8.2 ⟨h1,h2⟩⟩⟩
  ·exact⟨false,hw,.inr ⟨rfl,I8.2 ⟨h1,h2⟩⟩⟩
theorem zI{τ τ':Tm}{σ σ':ae}{i:fG}{v:AV}(h:∀t∈i.looks,τ.get t=τ'.get t)(hd:DC p cq τ σ i v σ'):DC p cq τ' σ i v σ':=by
 have hg:gS τ i.guard=gS τ' i.guard:=QW fun t w hgw=>h t (by simp[fG.looks,hgw])
 rcases hd with⟨hw,hf⟩|⟨hw,h1,h2⟩
 ·exact .inl ⟨by rw[←hg];exact hw,ZJ (fun t ht=>h t (by simp[fG.looks,ht])) hf⟩
 ·exact .inr ⟨by rw[←hg];exact hw,h1,h2⟩
theorem PF{x y:fG}{τ:Tm}{σ σ1 σ2:ae}{vx vy:AV}(hx:DC p cq τ σ x vx σ1)(hy:DC p cq τ σ1 y vy σ2)(hk:ER (x.op.kind cq) (y.op.kind cq)=true):∃σ1',DC p cq τ σ y vy σ1'∧DC p cq τ σ1' x vx σ2:=by
 rcases hx with⟨wx,fx⟩|⟨wx,rfl,rfl⟩
 ·rcases hy with⟨wy,fy⟩|⟨wy,rfl,rfl⟩
  ·obtain⟨σ1',h1,h2⟩:=agO fx fy hk
   exact⟨σ1',.inl ⟨wy,h1⟩,.inl ⟨wx,h2⟩⟩
  ·exact⟨σ,.inr ⟨wy,rfl,rfl⟩,.inl ⟨wx,fx⟩⟩
 ·exact⟨σ2,hy,.inr ⟨wx,rfl,rfl⟩⟩
theorem swap{x y:fG}{st s1 s2:St}(hx:iA p cq x st s1)(hy:iA p cq y s1 s2)(hi:indep cq x y=true):∃s1',iA p cq y st s1'∧iA p cq x s1' s2:=by
 simp only[indep,yE]at hi;obtain⟨⟨i1,i2⟩,i3⟩:=hi;have d1:∀k,x.dst=some k→k∉y.looks:=fun k hk=>by rw[hk]at i1;simpa using i1
 have d2:∀k,y.dst=some k→k∉x.looks∧x.dst≠some k:=fun k hk=>by rw[hk]at i2;simpa using i2
 obtain⟨vx,σ1,gx,bx,rfl⟩:=fi.1 hx;obtain⟨vy,σ2,gy,by',rfl⟩:=fi.1 hy;have hy':DC p cq st.τ σ1 y vy σ2:=zI (fun t ht=>xr fun k hk hx=>d1 k hk (hx ▸ ht)) gy
 obtain⟨σ1',h1,h2⟩:=PF gx hy' i3;refine⟨_,fi.2 ⟨vy,σ1',h1,by',rfl⟩,fi.2 ⟨vx,σ2,?_,bx,?_⟩⟩
 ·exact zI (fun t ht=>(xr fun k hk hx=>(d2 k hk).1 (hx ▸ ht)).symm) h2
 ·simp only[OT (fun k hk=>(d2 k hk).2)]
theorem M5{x y:fG}{τ:Tm}{σ σ1 σ2:ae}{vx vy:AV}(hx:DC p cq τ σ x vx σ1)(hy:DC p cq τ σ1 y vy σ2)(hk:jr τ x y=true):∃σ1',DC p cq τ σ y vy σ1'∧DC p cq τ σ1' x vx σ2:=by
 rcases hx with⟨wx,fx⟩|⟨wx,rfl,rfl⟩
 ·rcases hy with⟨wy,fy⟩|⟨wy,rfl,rfl⟩
  ·obtain⟨σ1',h1,h2⟩:=adh fx fy hk
   exact⟨σ1',.inl ⟨wy,h1⟩,.inl ⟨wx,h2⟩⟩
  ·exact⟨σ,.inr ⟨wy,rfl,rfl⟩,.inl ⟨wx,fx⟩⟩
 ·exact⟨σ2,hy,.inr ⟨wx,rfl,rfl⟩⟩
theorem aot{x y:fG}{st s1 s2:St}(hx:iA p cq x st s1)(hy:iA p cq y s1 s2)(hi:zO x y=true)(hk:jr st.τ x y=true):∃s1',iA p cq y st s1'∧iA p cq x s1' s2:=by
 simp only[zO,yE]at hi;obtain⟨i1,i2⟩:=hi;have d1:∀k,x.dst=some k→k∉y.looks:=fun k hk=>by rw[hk]at i1;simpa using i1
 have d2:∀k,y.dst=some k→k∉x.looks∧x.dst≠some k:=fun k hk=>by rw[hk]at i2;simpa using i2
 obtain⟨vx,σ1,gx,bx,rfl⟩:=fi.1 hx;obtain⟨vy,σ2,gy,by',rfl⟩:=fi.1 hy;have hy':DC p cq st.τ σ1 y vy σ2:=zI (fun t ht=>xr fun k hk hx=>d1 k hk (hx ▸ ht)) gy
 obtain⟨σ1',h1,h2⟩:=M5 gx hy' hk;refine⟨_,fi.2 ⟨vy,σ1',h1,by',rfl⟩,fi.2 ⟨vx,σ2,?_,bx,?_⟩⟩
 ·exact zI (fun t ht=>(xr fun k hk hx=>(d2 k hk).1 (hx ▸ ht)).symm) h2
 ·simp only[OT (fun k hk=>(d2 k hk).2)]
theorem BU{τ τ':Tm}{o:fG}(h:∀t∈o.looks,τ.get t=τ'.get t):eJ τ o=eJ τ' o:=by
 obtain⟨d,op,g⟩:=o;have v:∀x:O,(∀t∈x.reads,t∈op.reads)→x.val τ=x.val τ':=fun x hx=>val_congr fun t ht=>h t (by simp[fG.looks,hx t ht])
 cases op
 case load s g' x=>simp only[eJ,v x (fun t ht=>ht)]
 case aA es x i=>simp only[eJ,v x (fun t ht=>F9 _ ht)]
 case bV x=>simp only[eJ,v x (fun t ht=>ht)]
 case yw x=>simp only[eJ,v x (fun t ht=>ht)]
 case b2s x=>simp only[eJ,v x (fun t ht=>ht)]
 case lookup kl z x k ok=>simp only[eJ,v x (fun t ht=>F9 _ ht)]
 case IW es x lo hi mx=>simp only[eJ,v x (fun t ht=>F9 _ (F9 _ (F9 _ ht)))]
 all_goals rfl
theorem G8{τ τ':Tm}{o:fG}(h:∀t∈o.looks,τ.get t=τ'.get t):uP τ o=uP τ' o:=by
 obtain⟨d,op,g⟩:=o;have v:∀x:O,(∀t∈x.reads,t∈op.reads)→x.val τ=x.val τ':=fun x hx=>val_congr fun t ht=>h t (by simp[fG.looks,hx t ht])
 cases op
 case store s a x=>simp only[uP,v a (fun t ht=>F9 _ ht),v x (fun t ht=>Xq _ ht)]
 case aA es x i=>simp only[uP,v x (fun t ht=>F9 _ ht)]
 all_goals rfl
theorem ME{τ τ':Tm}{x y:fG}(hx:∀t∈x.looks,τ.get t=τ'.get t)(hy:∀t∈y.looks,τ.get t=τ'.get t):jr τ x y=jr τ' x y:=by
 unfold jr;rw[BU hx,BU hy,G8 hx,G8 hy]
theorem L6{t:Nat}:∀{l:List fG} {st st':St},vi p cq l st st'→(∀z∈l,∀d,z.dst=some d→d≠t)→st.τ.get t=st'.τ.get t
 | [],st,st',h,_=>by cases h;rfl
 |z::l,st,st',h,hd=>by
  cases h with
  |cons _ _ _ s1 _ hf hr=>
   rw[←L6 hr fun x hx=>hd x (by simp[hx])]
   obtain⟨v,σ',_,_,rfl⟩:=fi.1 hf;exact(xr fun k hk=>hd z (by simp) k hk).symm
inductive Yv (cq:FuncId→Bool):List fG→Prop
 |nil:Yv cq []
 |cons (x:fG) (l:List fG) (h:x.op.kind cq≠.q0→∀z∈x::l,∀d,z.dst=some d→d∉x.looks) (hl:Yv cq l):Yv cq (x::l)
theorem Yv.sub{l m:List fG}(h:Yv cq m)(hs:List.Sublist l m):Yv cq l:=by
 induction hs with
 |slnil=>exact .nil
 |cons a _ ih=>cases h with|cons _ _ _ hl=>exact ih hl
 |cons_cons a hs ih=>cases h with|cons _ _ h hl=>exact .cons _ _ (fun hk z hz=>h hk z (by rcases qL.1 hz with rfl|hz;simp;exact abn _ (hs.subset hz))) (ih hl)
theorem front{y:fG}{τf:Tm}:∀{pre post:List fG} {st st':St},vi p cq (pre++y::post) st st'→st'.τ=τf→(∀x∈pre,indep cq x y=true∨(Yv cq (pre++y::post)∧zO x y=true∧jr τf x y=true))→∃s1,iA p cq y st s1∧vi p cq (pre++post) s1 st'
 | [],post,st,st',h,_,_=>by
  cases h with
  |cons _ _ _ s1 _ hf hr=>exact⟨s1,hf,hr⟩
 |x::pre,post,st,st',h,hτ,hi=>by
  have h0:=h;cases h with
  |cons _ _ _ s1 _ hf hr=>
   obtain⟨s2,h1,h2⟩:=front hr hτ (fun z hz=>(hi z (by simp[hz])).imp id fun⟨a,b,c⟩=>⟨by cases a with|cons _ _ _ hl=>exact hl,b,c⟩)
   by_cases hin:indep cq x y=true
   ·obtain⟨s1',h3,h4⟩:=swap hf h1 hin
    exact⟨s1',h3,.cons _ _ _ s2 _ h4 h2⟩
   rcases hi x (by simp)with hx|⟨hs,hx,ha⟩
   ·exact absurd hx hin
   ·have hkinds:ER (x.op.kind cq) (y.op.kind cq)=false:=by
     have e:indep cq x y=(zO x y && ER (x.op.kind cq) (y.op.kind cq)):=rfl;rw[e,hx,IZ]at hin;simpa using hin
    have hkx:x.op.kind cq≠.q0:=fun e=>by rw[e]at hkinds;cases hkinds
    have hky:y.op.kind cq≠.q0:=fun e=>by rw[e]at hkinds;cases h:x.op.kind cq<;>rw[h]at hkinds<;>cases hkinds
    have hxl:∀t∈x.looks,st.τ.get t=st'.τ.get t:=fun t ht=>L6 h0 fun z hz d hd he=>by
     cases hs with
     |cons _ _ h _=>exact h hkx z hz d hd (he ▸ ht)
    have hyl:∀t∈y.looks,s1.τ.get t=st'.τ.get t:=by
     intro t ht
     have e1:s1.τ.get t=s2.τ.get t:=by
      obtain⟨v,σ',_,_,rfl⟩:=fi.1 h1;refine(xr fun k hk he=>?_).symm
      have:∀(l:List fG),Yv cq (l++y::post)→∀d,y.dst=some d→d∉y.looks:=by
       intro l
       induction l with
       |nil=>intro hs d hd;cases hs with|cons _ _ h _=>exact h hky y (by simp) d hd
       |cons a l ih=>intro hs;cases hs with|cons _ _ _ hl=>exact ih hl
      exact this (x::pre) hs k hk (he ▸ ht)
     rw[e1];refine L6 h2 fun z hz d hd he=>?_
     rcases Gb.1 hz with hz|hz
     ·have hzi:∀k,z.dst=some k→k∉y.looks:=by
       rcases hi z (by simp[hz])with h|⟨_,h,_⟩
       ·simp only[indep,yE]at h
        intro k hk;have:=h.1.1;rw[hk]at this;simpa using this
       ·simp only[zO,yE]at h
        intro k hk;have:=h.1;rw[hk]at this;simpa using this
      exact hzi d hd (he ▸ ht)
     ·have:∀(l:List fG),Yv cq (l++y::post)→∀z∈post,∀d,z.dst=some d→d∉y.looks:=by
       intro l
       induction l with
       |nil=>intro hs z hz d hd;cases hs with|cons _ _ h _=>exact h hky z (by simp[hz]) d hd
       |cons a l ih=>intro hs;cases hs with|cons _ _ _ hl=>exact ih hl
      exact this (x::pre) hs z hz d hd (he ▸ ht)
    have hx1:∀t∈y.looks,st.τ.get t=s1.τ.get t:=by
     intro t ht;obtain⟨v,σ',_,_,rfl⟩:=fi.1 hf;refine(xr fun k hk he=>?_).symm
     simp only[zO,yE]at hx;have:=hx.1;rw[hk]at this;have:k∉y.looks:=by simpa using this
     exact this (he ▸ ht)
    have hap:jr st.τ x y=true:=by
     rw[ME (τ':=τf) (fun t ht=>by rw[hxl t ht,hτ]) (fun t ht=>by rw[hx1 t ht,hyl t ht,hτ])]
     exact ha
    obtain⟨s1',h3,h4⟩:=aot hf h1 hx hap;exact⟨s1',h3,.cons _ _ _ s2 _ h4 h2⟩
theorem wQ:∀(ops:List Oper) (acc:List (List Nat)) (i:Nat),i<acc.length→(fO ops acc)[i]?=acc[i]?
 | [],acc,i,_=>rfl
 |o::r,acc,i,h=>by
  rw[fO,wQ r _ i (by simp;omega),ym h]
theorem DH:∀(ops:List Oper) (acc:List (List Nat)) (j:Nat) (o:Oper),ops[j]?=some o→(∀e∈o.after,Region.binds .any e=true→e.on<acc.length+j) →
  ∀x∈(fO ops acc).getD (acc.length+j) [],(∃e∈o.after,Region.binds .any e=true∧e.on=x)∨∃e∈o.after,Region.binds .any e=true∧x∈(fO ops acc).getD e.on []
 | [],acc,j,o,h,_=>by simp at h
 |o0::r,acc,0,o,h,hlt=>by
  intro x hx;simp only[NX,bL]at h;subst h
  have hb:∀i,i<acc.length→(fO (o0::r) acc).getD i []=acc.getD i []:=fun i hi=>by
   simp only[aaT,wQ (o0::r) acc i hi]
  have h0:(fO (o0::r) acc)[acc.length]?=some ((o0.after.toList.filterMap fun e=>if Region.binds .any e then some e.on else none)++(o0.after.toList.filterMap fun e=>if Region.binds .any e then some e.on else none).flatMap fun j=>acc.getD j []).eraseDups:=by
   rw[fO,wQ r _ acc.length (by simp)]
   simp
  simp only[ace,aaT,h0,Q2]at hx;rw[List.mem_eraseDups,Gb]at hx
  have dm:∀y,y∈(o0.after.toList.filterMap fun e=>if Region.binds .any e then some e.on else none)→∃e∈o0.after,Region.binds .any e=true∧e.on=y:=by
   intro y hy;rw[List.mem_filterMap]at hy;obtain⟨e,he,hy⟩:=hy;split at hy
   ·rename_i hbd
    simp only[bL]at hy;exact⟨e,by simpa using he,hbd,hy⟩
   ·cases hy
  rcases hx with hx|hx
  ·exact .inl (dm x hx)
  ·rw[Mz]at hx
   obtain⟨j,hj,hx⟩:=hx;obtain⟨e,he,hbd,rfl⟩:=dm j hj;refine .inr ⟨e,he,hbd,?_⟩;rw[hb _ (by simpa using hlt e he hbd)]
   simpa[aaT]using hx
 |o0::r,acc,j+1,o,h,hlt=>by
  intro x hx;rw[fO]at hx ⊢;refine DH r _ j o (by simpa using h) (fun e he hb=>?_) x ?_
  ·have:=hlt e he hb
   simp
   omega
  ·rw[mh,abV,show acc.length+1+j=acc.length+(j+1) by omega]
   exact hx
def rem(n:Nat)(listed:Array Bool):List Nat:=(List.range n).filter fun i=>!listed.getD i true
theorem si{n i:Nat}{listed:Array Bool}:i∈rem n listed↔i<n∧listed.getD i true=false:=by
 simp[rem,List.mem_filter,abw]
theorem ON{n i:Nat}{listed:Array Bool}(hsz:listed.size=n)(hi:i∈rem n listed):∃pre post,rem n listed=pre++i::post∧rem n (listed.setIfInBounds i true)=pre++post∧∀x∈pre,x<i:=by
 obtain⟨h1,h2⟩:=si.1 hi
 have hr:List.range n=List.range i++i::List.range' (i+1) (n-i-1):=by
  obtain⟨m,rfl⟩:∃m,n=i+(m+1):=⟨n-i-1,by omega⟩
  rw[List.range_eq_range',List.range_eq_range',←List.range'_append_1,sQ,ab5,show i+(m+1)-i-1=m by omega]
 have other:∀x,x≠i→(listed.setIfInBounds i true).getD x true=listed.getD x true:=fun x hx=>getD_set_ne true (fun h=>hx h.symm)
 refine⟨(List.range i).filter fun x=>!listed.getD x true,(List.range' (i+1) (n-i-1)).filter fun x=>!listed.getD x true,?_,?_,?_⟩
 ·unfold rem
  rw[hr,List.filter_append,ab3,h2];simp
 ·unfold rem
  rw[hr,List.filter_append,ab3]
  have hself:(listed.setIfInBounds i true).getD i true=true:=by
   have:i<listed.size:=by omega
   simp[Array.getD,this]
  rw[hself];simp only[abU,nh,if_false]
  congr 1
  ·exact List.filter_congr fun x hx=>by rw[other x (by rw[abw]at hx;omega)]
  ·exact List.filter_congr fun x hx=>by rw[other x (by rw[List.mem_range'_1]at hx;omega)]
 ·intro x hx
  rw[List.mem_filter,abw]at hx;exact hx.1
theorem GU:∀l:List fG,(List.range l.length).filterMap (l[·]?)=l
 | []=>rfl
 |a::l=>by
  rw[oi,List.range_succ_eq_map,abQ];simp only[NX,List.filterMap_map]
  congr 1
  exact GU l
theorem Z9(is:List fG)(r:List Nat)(h:List.Sublist r (List.range is.length)):List.Sublist (r.filterMap (is[·]?)) is:=by
 have:=h.filterMap (is[·]?)
 rwa [GU]at this
theorem ah4{is:List fG}{n:Nat}{listed:Array Bool}(h:is.length=n):List.Sublist (rem n listed) (List.range is.length):=by
 unfold rem;rw[h];exact List.filter_sublist
theorem YV{τf:Tm}{ops:Array Oper}{is:List fG}(hl:is.length=ops.size)(hi:∀(j:Nat) (o:Oper) (i:fG),ops[j]?=some o→is[j]?=some i→IOk p ops o i)
  (H1:∀(j:Nat) (o:Oper),ops[j]?=some o→∀e∈o.after,Region.binds .any e=true→e.on<j) (H2:∀(i j:Nat) (x y:fG),is[i]?=some x→is[j]?=some y→i<j→i∈(fO ops.toList []).getD j []∨indep cq x y=true∨(Yv cq is∧zO x y=true∧jr τf x y=true))
  {st':St} (hτ:st'.τ=τf) {base:Nat} {F:Fence} {Q:Exit→Act→World→Prop}:∀(fuel:Nat) (listed:Array Bool) (st:St) (own:List Loc) (ok:Nat→Prop) (w:World) (a:Act),listed.size=ops.size→(∀j,listed.getD j false=true→∀x∈(fO ops.toList []).getD j [],listed.getD x false=true) →
   (rem ops.size listed).length≤fuel→vi p cq ((rem ops.size listed).filterMap (is[·]?)) st st'→zB p cq ⟨own,st.σ,ok,w⟩ st base F a →
   (∀(own':List Loc) (ok':Nat→Prop) (w':World) (a':Act),zB p cq ⟨own',st'.σ,ok',w'⟩ st' base F a'→Step ⟨own,st.σ,ok,w⟩ ⟨own',st'.σ,ok',w'⟩→Q .normal a' w')→wpAnyIn F 0 p .any ops Q fuel listed a w:=by
 have fin:∀(listed:Array Bool) (st:St) (own:List Loc) (ok:Nat→Prop) (w:World) (a:Act),Region.ready .any ops listed=[]→listed.size=ops.size→vi p cq ((rem ops.size listed).filterMap (is[·]?)) st st'→zB p cq ⟨own,st.σ,ok,w⟩ st base F a →
   (∀(own':List Loc) (ok':Nat→Prop) (w':World) (a':Act),zB p cq ⟨own',st'.σ,ok',w'⟩ st' base F a'→Step ⟨own,st.σ,ok,w⟩ ⟨own',st'.σ,ok',w'⟩→Q .normal a' w')→Q .normal a w:=by
  intro listed st own ok w a hr hsz hR hN hQ
  have hnil:rem ops.size listed=[]:=by
   cases hrem:rem ops.size listed with
   |nil=>rfl
   |cons i0 r=>
    exfalso
    obtain⟨i,hmem,hmin⟩:∃i,i∈rem ops.size listed∧∀x∈rem ops.size listed,i≤x:=by
     have:=least (P:=fun i=>i∈rem ops.size listed) ⟨i0,by rw[hrem];simp⟩
     exact this
    obtain⟨h1,h2⟩:=si.1 hmem
    have hready:i∈Region.ready .any ops listed:=by
     rw[mem_ready];refine⟨h2,ops[i],by simp[h1],fun e he hb=>?_⟩
     have hlt:=H1 i ops[i] (by simp[h1]) e he hb
     cases hg:listed.getD e.on false with
     |true=>rfl
     |false=>
      have hsz':e.on<listed.size:=by omega
      have:e.on∈rem ops.size listed:=si.2 ⟨by omega,by simp[Array.getD,hsz']at hg ⊢;exact hg⟩
      have:=hmin _ this;omega
    rw[hr]at hready;cases hready
  rw[hnil]at hR;cases hR;exact hQ own ok w a hN (Step.refl _)
 intro fuel
 induction fuel with
 |zero=>
  intro listed st own ok w a hsz hcl hlen hR hN hQ;have hnil:rem ops.size listed=[]:=Jm.1 (by omega)
  have hready:Region.ready .any ops listed=[]:=by
   cases hr:Region.ready .any ops listed with
   |nil=>rfl
   |cons i r=>
    exfalso;have hm:i∈Region.ready .any ops listed:=by rw[hr];simp
    rw[mem_ready]at hm;obtain⟨h0,o,ho,_⟩:=hm;have:i∈rem ops.size listed:=si.2 ⟨(Q6.1 ho).1,h0⟩;rw[hnil]at this;cases this
  exact⟨hready,fin listed st own ok w a hready hsz hR hN hQ⟩
 |succ fuel ih=>
  intro listed st own ok w a hsz hcl hlen hR hN hQ;refine⟨fun hr=>fin listed st own ok w a hr hsz hR hN hQ,fun i hready=>?_⟩
  rw[mem_ready]at hready;obtain⟨h0,o,ho,hall⟩:=hready;have hin:i<ops.size:=(Q6.1 ho).1;have hmem:i∈rem ops.size listed:=si.2 ⟨hin,h0⟩;obtain⟨pre,post,e1,e2,e3⟩:=ON hsz hmem;have hil:i<is.length:=by omega
  have hb:∀x∈(fO ops.toList []).getD i [],listed.getD x false=true:=by
   intro x hx;have:=DH ops.toList [] i o (by simpa using ho) (fun e he hb=>by simpa using H1 i o ho e he hb) x (by simpa using hx)
   rcases this with⟨e,he,hbd,rfl⟩|⟨e,he,hbd,hx⟩
   ·exact hall e he hbd
   ·exact hcl e.on (hall e he hbd) x hx
  rw[e1,aby,abQ]at hR;simp only[oh hil]at hR
  have hsub:List.Sublist (pre.filterMap (is[·]?)++is[i]::post.filterMap (is[·]?)) is:=by
   have:=Z9 is (rem ops.size listed) (ah4 hl);rw[e1,aby,abQ]at this;simp only[oh hil]at this;exact this
  obtain⟨s1,hf,hR'⟩:=front hR hτ (fun x hx=>by
   rw[List.mem_filterMap]at hx;obtain⟨j,hj,hx⟩:=hx;rcases H2 j i x is[i] hx (oh hil) (e3 j hj)with h|h
   ·have h1:=hb j h
    have h2:listed.getD j true=false:=(si.1 (by rw[e1];simp[hj]:j∈rem ops.size listed)).2
    have hjs:j<listed.size:=by have:=e3 j hj;omega
    simp[Array.getD,hjs]at h1 h2;rw[h1]at h2;cases h2
   ·exact h.imp id fun⟨a,b,c⟩=>⟨a.sub hsub,b,c⟩)
  refine Jd ho (hi i o is[i] ho (oh hil)) hf hN (fun own1 ok1 w1 a1 hN1 st1=>?_)
  refine ih (listed.setIfInBounds i true) s1 own1 ok1 w1 a1 (by simpa using hsz) (fun j hj x hx=>?_) ?_ ?_ hN1 (fun own2 ok2 w2 a2 hN2 s2=>hQ own2 ok2 w2 a2 hN2 (st1.trans s2))
  ·by_cases hji:j=i
   ·subst hji
    exact getD_set_true (hb x hx)
   ·rw[getD_set_ne false (fun h=>hji h.symm)]at hj
    exact getD_set_true (hcl j hj x hx)
  ·rw[e2]
   rw[e1]at hlen;simp at hlen ⊢;omega
  ·rw[e2,aby]
   exact hR'
theorem tj:∀(z:List AV) (σ:ae),(aT z σ).2=σ++List.replicate (mn z) (.pv 0 [] false)∧(aT z σ).1.length=z.length
 | [],σ=>by simp[aT,mn]
 |c::z,σ=>by
  cases c with
  |aF=>
   obtain⟨h1,h2⟩:=tj z (σ++[.pv 0 [] false]);simp only[aT,mn,h1,oi,h2,Ux,List.replicate_succ,List.singleton_append,and_self]
  |_=>
   obtain⟨h1,h2⟩:=tj z σ;simp only[aT,mn,h1,oi,h2,and_self]
theorem BR{σ:ae}{τ:Tm}{z:List AV}{s:Nat}:plain σ τ (.alloc z s)=some (.ptr (σ.length+mn z) 1 0 0,σ++List.replicate (mn z) (.pv 0 [] false)++[mkObj s (aT z σ).1]):=by
 simp only[plain];rw[(tj z σ).1];simp only[mh,aca]
def rowP(s:Nat)(q:PV):Option (List PV) :=
 match cellsOf s (match(AV.p q)with|.agg _|.p (.agg _)=>true|_=>false) (.p q)with
 |some cs=>if cs.length=s then af cs else none
 |none=>none
theorem Cl:∀ps:List PV,af (ps.map .p)=some ps
 | []=>rfl
 |a::r=>by simp[af,Cl r]
theorem Kn:∀(ps:List PV) (σ:ae),aT (ps.map .p) σ=(ps.map .p,σ)
 | [],σ=>rfl
 |a::r,σ=>by simp[aT,Kn r σ]
theorem Z8{σ:ae}{b s:Nat}{cells:List AV}{ps:List PV}(hb:σ[b]?=some (mkObj s cells))(hl:cells.length=s)(hp:ps.length=s):setRow σ b 1 0 0 (ps.map .p)=some (σ.set b (.pv s [ps] false)):=by
 unfold setRow;rw[hb];unfold mkObj;cases ha:af cells with
 |none=>
  simp only[oi,pN,if_true,NX,xu,b9,bz,hp,hl,sQ,qj,List.take_zero,yK,vd,aa9];rw[ab7 (by omega),abq]
  simp only[Cl]
 |some qs=>
  have hq:qs.length=s:=by
   have:∀(l:List AV) (m:List PV),af l=some m→m.length=l.length:=by
    intro l
    induction l with
    |nil=>intro m h;simp[af]at h;subst h;rfl
    |cons a l ih=>
     intro m h;cases a<;>simp only[af,reduceCtorEq]at h
     rename_i v;cases hl:af l with
     |none=>rw[hl]at h;cases h
     |some m'=>rw[hl]at h;simp only[vd,bL]at h;subst h;simp[ih m' hl]
   rw[this cells qs ha,hl]
  simp only[oi,pN,if_true,NX,xu,Cl,b9,hp,hq,sQ,qj,List.take_zero,yK,vd,aa9];rw[ab7 (by omega),abq]
theorem yh{σ:ae}{b s:Nat}{cells:List AV}{q:PV}(hb:σ[b]?=some (mkObj s cells))(hl:cells.length=s):eE σ s (.ptr b 1 0 0) (.p q)=(rowP s q).map fun row=>σ.set b (.pv s [row] false):=by
 have key:∀(cs:List AV) (ps:List PV),cs=ps.map .p→(if cs.length=s then(let (cs',σ'):=aT cs σ;setRow σ' b 1 0 0 cs')else none)=((if cs.length=s then af cs else none):Option (List PV)).map fun row=>σ.set b (.pv s [row] false):=by
  rintro _ ps rfl
  by_cases h:(ps.map AV.p).length=s
  ·rw[if_pos h,if_pos h,Kn,Cl]
   exact Z8 hb hl (by simpa using h)
  ·rw[if_neg h,if_neg h];rfl
 unfold eE rowP;cases q with
 |agg ps=>
  simp only[cellsOf,if_true];by_cases h:ps.length=s
  ·simp only[h,if_true]
   exact key _ ps rfl
  ·simp only[h,if_false];rfl
 |jO ps=>simp only[cellsOf,nh,if_false];rfl
 |int k n=>simp only[cellsOf,nh,if_false];exact key _ [_] rfl
 |bool n=>simp only[cellsOf,nh,if_false];exact key _ [_] rfl
 |str n=>simp only[cellsOf,nh,if_false];exact key _ [_] rfl
 |aW n=>simp only[cellsOf,nh,if_false];exact key _ [_] rfl
 |ptr n m=>simp only[cellsOf,nh,if_false];exact key _ [_] rfl
 |vu=>simp only[cellsOf,nh,if_false];exact key _ [_] rfl
 |fn n m=>simp only[cellsOf,nh,if_false];exact key _ [_] rfl
 |w9=>simp only[cellsOf,nh,if_false];exact key _ [_] rfl
 |E4=>simp only[cellsOf,nh,if_false];exact key _ [_] rfl
 |pmap n=>simp only[cellsOf,nh,if_false];exact key _ [_] rfl
def sw(a b c:Nat):Nat:=if c=a then b else if c=b then a else c
theorem afK{a b:Nat}(c:Nat):sw a b (sw a b c)=c:=by
 unfold sw;by_cases h1:c=a
 ·subst h1
  by_cases h2:b=c
  ·simp[h2]
  ·simp[h2]
 ·by_cases h2:c=b
  ·subst h2;simp[h1]
  ·simp[h1,h2]
theorem alJ{a b c d:Nat}(h:sw a b c=sw a b d):c=d:=by rw[←afK (a:=a) (b:=b) c,h,afK]
theorem Yk{a b c n:Nat}(ha:n≤a)(hb:n≤b)(hc:c<n):sw a b c=c:=by
 unfold sw;rw[if_neg (by omega),if_neg (by omega)]
theorem Xb{α:Type}(A N:List α)(x y:α)(b:Nat):(A++x::(N++[y]))[b]?=(A++y::(N++[x]))[sw A.length (A.length+1+N.length) b]? := by
 unfold sw;by_cases h1:b=A.length
 ·subst h1
  rw[if_pos rfl,CG (qj _),Yw,CG (by omega),show A.length+1+N.length-A.length=N.length+1 by omega,aa6,CG (qj _),Yw]
  rfl
 ·rw[if_neg h1]
  by_cases h2:b=A.length+1+N.length
  ·subst h2
   rw[if_pos rfl,CG (by omega),CG (qj _),show A.length+1+N.length-A.length=N.length+1 by omega,aa6,CG (qj _),Yw,Yw]
   rfl
  ·rw[if_neg h2]
   rcases UB b A.length with h|h
   ·rw[ym h,ym h]
   ·obtain⟨k,rfl⟩:∃k,b=A.length+(k+1):=⟨b-A.length-1,by omega⟩
    rw[CG (by omega),CG (by omega),show A.length+(k+1)-A.length=k+1 by omega,aa6,aa6]
    rcases UB k N.length with h|h
    ·rw[ym h,ym h]
    ·rw[aa3 (by simp;omega),aa3 (by simp;omega)]
structure Twin (d1 d2 b1 b2:Nat) (st' st2:St):Prop where
 nt:st2.nt=st'.nt
 rd:st2.rd=st'.rd
 get:∀t,t≠d1→t≠d2→st2.τ.get t=st'.τ.get t
 g1:st'.τ.get d1=.ptr b1 1 0 0
 g2:st'.τ.get d2=.ptr b2 1 0 0
 h1:st2.τ.get d1=.ptr b2 1 0 0
 h2:st2.τ.get d2=.ptr b1 1 0 0
 len:st2.σ.length=st'.σ.length
 obj:∀b,st'.σ[b]?=st2.σ[sw b1 b2 b]?
 o1:∃s r,st2.σ[b1]?=some (.pv s [r] false)
 o2:∃s r,st2.σ[b2]?=some (.pv s [r] false)
theorem J7{τ:Tm}{σ σ':ae}{i:fG}{v:AV}(hg:i.guard=none)(hc:i.op.dV=false):DC p cq τ σ i v σ'↔plain σ τ i.op=some (v,σ'):=by
 unfold DC;rw[hg,dt hc];simp[gS]
theorem Jb{α:Type}(A B:List α)(m x:α):(A++m::B).set A.length x=A++x::B:=by
 rw[List.set_append_right _ _ (qj _),Yw,aa9]
theorem arg_val{d1 d2:Nat}{v:O}(h:Je d1 d2 v=true){τ τ':Tm}(hτ:∀t,t≠d1→t≠d2→τ.get t=τ'.get t):v.val τ=v.val τ':=by
 cases v with
 |t n=>simp only[Je,yE,bne_iff_ne]at h;exact hτ n h.1 h.2
 |c v=>rfl
theorem ajg{i1 i2 i3 i4:fG}{st st':St}:vi p cq [i1,i2,i3,i4] st st'↔∃s1 s2 s3,iA p cq i1 st s1∧iA p cq i2 s1 s2∧iA p cq i3 s2 s3∧iA p cq i4 s3 st':=by
 constructor
 ·intro h
  cases h with|cons _ _ _ s1 _ h1 h=>cases h with|cons _ _ _ s2 _ h2 h=>cases h with|cons _ _ _ s3 _ h3 h=>cases h with|cons _ _ _ s4 _ h4 h=>cases h;exact⟨s1,s2,s3,h1,h2,h3,h4⟩
 ·rintro⟨s1,s2,s3,h1,h2,h3,h4⟩
  exact .cons _ _ _ s1 _ h1 (.cons _ _ _ s2 _ h2 (.cons _ _ _ s3 _ h3 (.cons _ _ _ _ _ h4 (.nil _))))
theorem ad4{v:AV}(h:isP v=true):∃q,v=.p q:=by cases v<;>first|exact⟨_,rfl⟩|cases h
theorem xq{i:fG}(hg:i.guard=none)(hc:i.op.dV=false){st st':St}:iA p cq i st st'↔∃v σ',plain st.σ st.τ i.op=some (v,σ')∧(∀k,i.dst=some k→k<st.nt)∧st'={ st with τ:=D5 st.τ i.dst v,σ:=σ' }:=by
 rw[fi];constructor
 ·rintro⟨v,σ',h1,h2⟩;exact⟨v,σ',(J7 hg hc).1 h1,h2⟩
 ·rintro⟨v,σ',h1,h2⟩;exact⟨v,σ',(J7 hg hc).2 h1,h2⟩
theorem afO{is:List fG}{d1 d2 k:Nat}(ht:Ag is=some (d1,d2,k)){st st':St}(hv:Ch st'.τ is=true)(hR:vi p cq is st st') :
  ∃i1 i2 post st2,is=i1::i2::post∧vi p cq (i2::i1::post) st st2∧Twin d1 d2 (st.σ.length+k) (st.σ.length+k+1+k) st' st2:=by
 unfold Ag at ht;split at ht
 case h_2=>cases ht
 rename_i d1' z1 s1 d2' z2 s2 s3 e1 v1 s4 e2 v2;simp only[Option.ite_none_right_eq_some,yE,beq_iff_eq,bne_iff_ne,ne_eq,bL,pY]at ht;obtain⟨⟨⟨⟨⟨⟨⟨⟨⟨⟨hne,rfl⟩,rfl⟩,rfl⟩,rfl⟩,hz1⟩,hz2⟩,hz⟩,ha1⟩,ha2⟩,rfl,rfl,rfl⟩:=ht
 suffices H:∃st2,vi p cq [⟨some e2,.alloc z2 s4,none⟩,⟨some e1,.alloc z1 s3,none⟩,⟨none,.store s3 (.t e1) v1,none⟩,⟨none,.store s4 (.t e2) v2,none⟩] st st2∧Twin e1 e2 (st.σ.length+mn z1) (st.σ.length+mn z1+1+mn z1) st' st2 by
  obtain⟨st2,h1,h2⟩:=H;exact⟨_,_,_,st2,rfl,h1,h2⟩
 rw[ajg]at hR;obtain⟨sa,sb,sc,h1,h2,h3,h4⟩:=hR;rw[xq rfl rfl]at h1 h2 h3 h4;obtain⟨u1,σ1,h1,b1,rfl⟩:=h1;obtain⟨u2,σ2,h2,b2,rfl⟩:=h2;obtain⟨u3,σ3,h3,b3,rfl⟩:=h3;obtain⟨u4,σ4,h4,b4,rfl⟩:=h4;simp only[BR,bL,pY]at h1 h2;obtain⟨rfl,rfl⟩:=h1;obtain⟨rfl,rfl⟩:=h2;have b1:e1<st.nt:=b1 _ rfl;have b2':e2<st.nt:=b2 _ rfl;clear b3 b4 b2;simp only[D5]at h3 h4 hv ⊢;simp only[plain,gE,pY]at h3 h4;obtain⟨σ3',h3,_,rfl⟩:=h3;obtain⟨σ4',h4,_,rfl⟩:=h4;simp only[Ch,yE]at hv;obtain⟨q1,hq1⟩:=ad4 hv.1;obtain⟨q2,hq2⟩:=ad4 hv.2;have hne':¬e2=e1:=fun h=>hne h.symm
 have g1:∀(a b:AV),(jg (jg st.τ e1 a) e2 b).get e1=a:=fun a b=>by simp[jg,hne']
 have g2:∀(a b:AV),(jg (jg st.τ e1 a) e2 b).get e2=b:=fun a b=>by simp[jg]
 have g3:∀(a b:AV),(jg (jg st.τ e2 b) e1 a).get e1=a:=fun a b=>by simp[jg]
 have g4:∀(a b:AV),(jg (jg st.τ e2 b) e1 a).get e2=b:=fun a b=>by simp[jg,hne]
 have oth:∀(a b a' b':AV) (t:Nat),t≠e1→t≠e2→(jg (jg st.τ e2 b') e1 a').get t=(jg (jg st.τ e1 a) e2 b).get t:=fun a b a' b' t h1 h2=>by simp[jg,Ne.symm h1,Ne.symm h2]
 have ov:∀(τ:Tm) (t:Nat),O.val τ (O.t t)=τ.get t:=fun _ _=>rfl
 have hc1:(aT z1 st.σ).1.length=s3:=by rw[(tj z1 st.σ).2];exact hz1
 have vv1:∀a b:AV,O.val (jg (jg st.τ e1 a) e2 b) v1=.p q1:=fun a b=>(arg_val ha1 fun t h1 h2=>by simp[jg,Ne.symm h1,Ne.symm h2]).trans hq1
 have vv2:∀a b:AV,O.val (jg (jg st.τ e1 a) e2 b) v2=.p q2:=fun a b=>(arg_val ha2 fun t h1 h2=>by simp[jg,Ne.symm h1,Ne.symm h2]).trans hq2
 clear hq1 hq2;generalize hN:List.replicate (mn z1) (Obj.pv 0 [] false)=N at *;have hN2:List.replicate (mn z2) (Obj.pv 0 [] false)=N:=by rw[←hz];exact hN
 have hNl:N.length=mn z1:=by rw[←hN];simp
 rw[hN2]at h3;generalize hc2:(aT z2 (st.σ++N++[mkObj s3 (aT z1 st.σ).1])).1=cs2 at *;have hc2':cs2.length=s4:=by rw[←hc2,(tj z2 _).2];exact hz2
 have hA:(st.σ++N).length=st.σ.length+mn z1:=by simp[hNl]
 have f1:(st.σ++N++[mkObj s3 (aT z1 st.σ).1]++N++[mkObj s4 cs2])=(st.σ++N)++mkObj s3 (aT z1 st.σ).1::(N++[mkObj s4 cs2]):=by simp
 simp only[ov,g1,vv1]at h3;rw[f1,yh (cells:=(aT z1 st.σ).1) (by rw[←hA,CG (qj _),Yw];rfl) hc1,gE]at h3
 obtain⟨r1,hr1,rfl⟩:=h3;rw[←hA,Jb]at h4;rw[←hA];have f2:∀x y:Obj,(st.σ++N)++x::(N++[y])=((st.σ++N)++x::N)++y::[]:=fun x y=>by simp
 have f3:∀x:Obj,((st.σ++N)++x::N).length=(st.σ++N).length+1+N.length:=fun x=>by simp;omega
 have f4:(st.σ++N++[mkObj s3 (aT z1 st.σ).1]).length+mn z2=(st.σ++N).length+1+N.length:=by rw[hNl,hz];simp;omega
 simp only[ov,g2,vv2,f4]at h4;rw[f2,yh (cells:=cs2) (by rw[←f3 (.pv s3 [r1] false),CG (qj _),Yw];rfl) hc2',gE]at h4
 obtain⟨r2,hr2,rfl⟩:=h4;rw[←f3 (.pv s3 [r1] false),Jb,←f2];generalize hd2:(aT z2 st.σ).1=ds2;have hd2':ds2.length=s4:=by rw[←hd2,(tj z2 _).2];exact hz2
 generalize hd1:(aT z1 (st.σ++N++[mkObj s4 ds2])).1=ds1;have hd1':ds1.length=s3:=by rw[←hd1,(tj z1 _).2];exact hz1
 have k1:(st.σ++N++[mkObj s4 ds2]++N++[mkObj s3 ds1])=(st.σ++N)++mkObj s4 ds2::(N++[mkObj s3 ds1]):=by simp
 have k4:(st.σ++N++[mkObj s4 ds2]).length+mn z1=(st.σ++N).length+1+N.length:=by rw[hNl];simp;omega
 refine⟨⟨jg (jg st.τ e2 (.ptr (st.σ++N).length 1 0 0)) e1 (.ptr ((st.σ++N).length+1+N.length) 1 0 0),(st.σ++N)++.pv s4 [r2] false::(N++[.pv s3 [r1] false]),st.nt,st.rd⟩,?_,?_⟩
 ·rw[ajg]
  refine⟨⟨jg st.τ e2 (.ptr (st.σ++N).length 1 0 0),st.σ++N++[mkObj s4 ds2],st.nt,st.rd⟩,⟨jg (jg st.τ e2 (.ptr (st.σ++N).length 1 0 0)) e1 (.ptr ((st.σ++N).length+1+N.length) 1 0 0),(st.σ++N)++mkObj s4 ds2::(N++[mkObj s3 ds1]),st.nt,st.rd⟩,
   ⟨jg (jg st.τ e2 (.ptr (st.σ++N).length 1 0 0)) e1 (.ptr ((st.σ++N).length+1+N.length) 1 0 0),(st.σ++N)++mkObj s4 ds2::(N++[.pv s3 [r1] false]),st.nt,st.rd⟩,?_,?_,?_,?_⟩
  ·rw[xq rfl rfl]
   refine⟨_,_,BR,fun k hk=>by cases hk;exact b2',?_⟩
   simp only[D5,hd2,hN2,hA,hz]
  ·rw[xq rfl rfl]
   refine⟨_,_,BR,fun k hk=>by cases hk;exact b1,?_⟩
   simp only[D5,hd1,hN,k1,k4]
  ·rw[xq rfl rfl]
   refine⟨.any,_,?_,fun k hk=>by(cases hk),rfl⟩
   simp only[plain,ov,g3];rw[show O.val (jg (jg st.τ e2 (.ptr (st.σ++N).length 1 0 0)) e1 (.ptr ((st.σ++N).length+1+N.length) 1 0 0)) v1=.p q1 by rw[arg_val ha1 (fun t h1 h2=>oth .any .any _ _ t h1 h2),vv1]]
   rw[f2,yh (cells:=ds1) (by rw[←f3 (mkObj s4 ds2),CG (qj _),Yw];rfl) hd1',hr1,vd,vd,←f3 (mkObj s4 ds2),Jb,←f2]
  ·rw[xq rfl rfl]
   refine⟨.any,_,?_,fun k hk=>by(cases hk),rfl⟩
   simp only[plain,ov,g4];rw[show O.val (jg (jg st.τ e2 (.ptr (st.σ++N).length 1 0 0)) e1 (.ptr ((st.σ++N).length+1+N.length) 1 0 0)) v2=.p q2 by rw[arg_val ha2 (fun t h1 h2=>oth .any .any _ _ t h1 h2),vv2]]
   rw[yh (cells:=ds2) (by rw[CG (qj _),Yw];rfl) hd2',hr2,vd,vd,Jb]
 ·refine⟨rfl,rfl,fun t h1 h2=>oth _ _ _ _ t h1 h2,?_,?_,?_,?_,?_,fun b=>?_,⟨s4,r2,?_⟩,⟨s3,r1,?_⟩⟩
  ·simp only[g1]
  ·simp only[g2,f4,hNl]
  ·simp only[g3,hNl]
  ·simp only[g4]
  ·simp
  ·rw[←hNl]
   exact Xb _ _ _ _ b
  ·show((st.σ++N)++_::_)[_]?=_
   rw[CG (qj _),Yw];rfl
  ·show((st.σ++N)++_::(N++[_]))[_]?=_
   rw[←hNl,f2,←f3 (.pv s4 [r2] false),CG (qj _),Yw];rfl
theorem cE.swapped{V:View}(h:cE p cq V){b1 b2 n:Nat}(h1:n≤b1)(h2:n≤b2){own':List Loc}{σ':ae}(hl:own'.length=σ'.length)(ho:∀b,own'[b]?=V.own[sw b1 b2 b]?)(hs:∀b,σ'[b]?=V.σ[sw b1 b2 b]?)(hb:∀o∈V.σ,Obj.below n o=true):cE p cq ⟨own',σ',V.ok,V.w⟩:=by
 have hsh:∀b,b<n→σ'[b]?=V.σ[b]? := fun b hb=>by rw[hs,Yk h1 h2 hb]
 have hown:∀b,b<n→own'[b]?=V.own[b]? := fun b hb=>by rw[ho,Yk h1 h2 hb]
 have hat:∀c r,(View.mk own' σ' V.ok V.w).at c r→V.at (sw b1 b2 c) r:=by
  rintro c r ⟨l,o,k1,k2,k3,k4⟩
  exact⟨l,o,by rw[←ho c];exact k1,by rw[←hs c];exact k2,k3,k4⟩
 refine⟨hl,?_,fun c c' r hc hc'=>alJ (h.one _ _ r (hat c r hc) (hat c' r hc')),?_,fun r ⟨c,hc⟩=>h.lt r ⟨_,hat c r hc⟩,h.xe⟩
 ·intro c l o k1 k2
  have k1':V.own[sw b1 b2 c]?=some l:=by rw[←ho c];exact k1
  have k2':V.σ[sw b1 b2 c]?=some o:=by rw[←hs c];exact k2
  have hor:=h.obj _ l o k1' k2';have hbo:=hb o (mK k2');cases o with
  |pv es rows f=>
   refine⟨hor.wide,hor.cap,hor.nil,hor.hole,fun r hr=>?_⟩
   obtain⟨cc,t,h3,h4,h5⟩:=hor.cells r hr;refine⟨cc,t,h3,h4,fun k a ha=>?_⟩
   obtain⟨v,h6,h7,h8⟩:=h5 k a ha;refine⟨v,h6,h7,?_⟩;rw[kj,xF,gE]at ha;obtain⟨q,_,rfl⟩:=ha;exact .p h8.xV
  |av es rows f=>
   refine⟨hor.wide,hor.cap,hor.nil,hor.hole,fun r hr=>?_⟩
   obtain⟨cc,t,h3,h4,h5⟩:=hor.cells r hr;refine⟨cc,t,h3,h4,fun k a ha=>?_⟩
   obtain⟨v,h6,h7,h8⟩:=h5 k a ha;refine⟨v,h6,h7,h8.under hsh hown ?_⟩;simp only[Obj.below,AS]at hbo;obtain⟨x,hx,hax⟩:=List.mem_flatten.1 (mK ha);exact hbo x hx a hax
  |map es f=>
   obtain⟨r,en,clock,hl,hm⟩:=hor;refine⟨r,en,clock,hl,hm.heap,hm.len,hm.key,fun i a b h1 h2=>(hm.val i a b h1 h2).under hsh hown ?_⟩
   simp only[Obj.below,AS]at hbo;exact hbo a (mK h1)
  |loop τ nt ps gP body s=>
   obtain⟨r,L,hl,hm⟩:=hor;refine⟨r,L,hl,hm.heap,hm.state,hm.gP,hm.body,hm.ps,hm.size,hm.small,fun t=>(hm.tmps t).under hsh hown ?_⟩
   exact KW τ t hbo
  |gone=>trivial
 ·intro c r o hc k1 hf hk
  exact h.apart _ r o (hat c r hc) (by rw[←hs c];exact k1) hf hk
theorem Xk{V V':View}(hok:V'.ok=V.ok)(hw:V'.w=V.w){x:AV}{u:Value}(hu:u=undef)(h:aV V x u):aV V' x u:=by
 unfold undef at hu;cases h with
 |any v=>exact .any _
 |p h=>rw[←hok,←hw]at h;exact .p h
 |jO cs vs hl h=>
  simp only[Value.tuple.injEq]at hu;have:vs=[]:=by simpa using hu
  subst this;have:cs=[]:=Jm.1 (by simpa using hl)
  subst this;exact .jO [] [] rfl (by simp)
 |_=>cases hu
theorem zB.alO{st' st2:St}{d1 d2 b1 b2 n:Nat}(hT:Twin d1 d2 b1 b2 st' st2)(h1:n≤b1)(h2:n≤b2)(hob:st'.σ.all (Obj.below n)=true)(hτ:∀t,t<st'.nt→t≠d1→t≠d2→below n (st'.τ.get t)=true)
  {own:List Loc} {ok:Nat→Prop} {w:World} {base:Nat} {F:Fence} {a:Act} (hN:zB p cq ⟨own,st2.σ,ok,w⟩ st2 base F a) :
  ∃own',zB p cq ⟨own',st'.σ,ok,w⟩ st' base F a∧∀V0:View,V0.σ.length≤n→Step V0 ⟨own,st2.σ,ok,w⟩→Step V0 ⟨own',st'.σ,ok,w⟩:=by
 have hlen:own.length=st2.σ.length:=hN.s.len;obtain⟨s1,r1,o1⟩:=hT.o1;obtain⟨s2,r2,o2⟩:=hT.o2;have l1:b1<own.length:=by have:=(gu.1 o1).1;omega
 have l2:b2<own.length:=by have:=(gu.1 o2).1;omega
 have ho:∀b,((List.range own.length).map fun b=>own.getD (sw b1 b2 b) default)[b]?=own[sw b1 b2 b]? := by
  intro b;rw[xF];rcases UB b own.length with hb|hb
  ·have:sw b1 b2 b<own.length:=by unfold sw;split;exact l2;split;exact l1;exact hb
   rw[abr hb];simp[this]
  ·have:sw b1 b2 b=b:=by unfold sw;rw[if_neg (by omega),if_neg (by omega)]
   rw[this,aa3 (by simpa using hb),aa3 hb]
   rfl
 generalize hown':((List.range own.length).map fun b=>own.getD (sw b1 b2 b) default)=own' at ho
 have hl':own'.length=st'.σ.length:=by rw[←hown',bz,abY,hlen,hT.len]
 have hbel:∀o∈st2.σ,Obj.below n o=true:=by
  intro o hm;obtain⟨b,hb⟩:=Xr hm;have:=hT.obj (sw b1 b2 b);rw[afK,hb]at this;exact AS.1 hob o (mK this)
 have hS:cE p cq ⟨own',st'.σ,ok,w⟩:=hN.s.swapped h1 h2 hl' ho hT.obj hbel;have hsh:∀b,b<n→st'.σ[b]?=st2.σ[b]? := fun b hb=>by rw[hT.obj,Yk h1 h2 hb]
 have hown:∀b,b<n→own'[b]?=own[b]? := fun b hb=>by rw[ho,Yk h1 h2 hb]
 have hat:∀r,View.owned ⟨own',st'.σ,ok,w⟩ r→View.owned ⟨own,st2.σ,ok,w⟩ r:=by
  rintro r ⟨c,l,o,k1,k2,k3,k4⟩
  exact⟨sw b1 b2 c,l,o,by rw[←ho c];exact k1,by simp only[];rw[←hT.obj c];exact k2,k3,k4⟩
 have w1:sw b1 b2 b1=b2:=by simp[sw]
 have w2:sw b1 b2 b2=b1:=by unfold sw;split;assumption;rw[if_pos rfl]
 have ptr:∀(c c':Nat) (u:Value),sw b1 b2 c=c'→aV ⟨own,st2.σ,ok,w⟩ (.ptr c' 1 0 0) u→aV ⟨own',st'.σ,ok,w⟩ (.ptr c 1 0 0) u:=by
  intro c c' u hc h;cases h with
  |ptr b m i o x s hs hn h=>exact .ptr c 1 0 0 x s (by unfold View.sh at hs ⊢;simp only[]at hs ⊢;rw[hT.obj,hc];exact hs) hn (fun es l k1 k2=>h es l k1 (by simp only[]at k2 ⊢;rw[ho,hc]at k2;exact k2))
 refine⟨own',⟨hS,⟨by rw[hN.t.size,hT.nt],by rw[←hT.nt];exact hN.t.small,fun t=>?_⟩,rI.more hN.d hat,?_⟩,fun V0 hn hs=>?_⟩
 ·have ht:=hN.t.get t
  by_cases e1:t=d1
  ·subst e1
   rw[hT.h1]at ht;rw[hT.g1];exact ptr _ _ _ w1 ht
  ·by_cases e2:t=d2
   ·subst e2
    rw[hT.h2]at ht;rw[hT.g2];exact ptr _ _ _ w2 ht
   ·rw[hT.get t e1 e2]at ht
    rcases UB t st'.nt with hlt|hge
    ·exact ht.under (n:=n) hsh hown (hτ t hlt e1 e2)
    ·refine Xk (V:=⟨own,st2.σ,ok,w⟩) (V':=⟨own',st'.σ,ok,w⟩) rfl rfl ?_ ht
     have:¬t<a.tmps.size:=by rw[hN.t.size,hT.nt];omega
     simp[Array.getD,this]
 ·have hf:=hN.f
  rw[hT.rd]at hf;unfold ve at hf ⊢;split at hf
  ·exact hf
  ·rename_i l hrd
   obtain⟨r,e,hf⟩:=hf
   have hne:sw b1 b2 l=l:=by
    have k1:l≠b1:=by
     rintro rfl
     unfold View.sh at hf;simp only[o1,vd,Obj.sh,bL,reduceCtorEq,false_and,or_self]at hf
    have k2:l≠b2:=by
     rintro rfl
     unfold View.sh at hf;simp only[o2,vd,Obj.sh,bL,reduceCtorEq,false_and,or_self]at hf
    unfold sw;rw[if_neg k1,if_neg k2]
   refine⟨r,e,?_⟩;unfold View.sh at hf ⊢;simp only[ho,hT.obj,hne]at hf ⊢;exact hf
 ·refine⟨⟨hs.ext.ok,hs.ext.keep,fun b s hb=>?_⟩,hs.size,hs.keep,hs.E5,fun r hr=>hs.xg r (hat r hr),hs.env⟩
  obtain⟨s',hs',hle⟩:=hs.ext.sh b s hb
  have hbn:b<n:=by
   unfold View.sh at hb;rcases UB b V0.σ.length with h1|h1
   ·omega
   ·simp[aa3 h1]at hb
  refine⟨s',?_,?_⟩
  ·unfold View.sh at hs' ⊢
   simp only[]at hs' ⊢;rw[hsh b hbn];exact hs'
  ·simp only[]at hle ⊢
   rw[hown b hbn];exact hle
theorem yc:∀{A B:List fG} {s t:St},vi p cq (A++B) s t↔∃m,vi p cq A s m∧vi p cq B m t
 | [],B,s,t=>⟨fun h=>⟨s,.nil s,h⟩,fun⟨m,h1,h2⟩=>by cases h1;exact h2⟩
 |a::A,B,s,t=>by
  constructor
  ·intro h
   cases h with
   |cons _ _ _ s1 _ h1 h2=>
    obtain⟨m,h3,h4⟩:=yc.1 h2;exact⟨m,.cons _ _ _ s1 _ h1 h3,h4⟩
  ·rintro⟨m,h1,h2⟩
   cases h1 with
   |cons _ _ _ s1 _ h1 h3=>exact .cons _ _ _ s1 _ h1 (yc.2 ⟨m,h3,h2⟩)
theorem Xf{l:List fG}{x:Nat×Nat×Nat}(h:Ag l=some x):∃x0 x1 x2 x3,l=[x0,x1,x2,x3]∧x0.op.kind cq=.a∧x2.op.kind cq=.w∧x3.op.kind cq=.w:=by
 unfold Ag at h;split at h
 ·exact⟨_,_,_,_,rfl,rfl,rfl,rfl⟩
 ·cases h
theorem TN{n i0:Nat}{listed:Array Bool}(hn:n=i0+4)(h0:listed.getD i0 true=false)(h2:listed.getD (i0+2) true=false)(h3:listed.getD (i0+3) true=false) :
  rem n listed=((List.range i0).filter fun i=>!listed.getD i true)++(i0::((if listed.getD (i0+1) true=true then[]else[i0+1])++[i0+2,i0+3])):=by
 subst hn;unfold rem;rw[List.range_succ,List.range_succ,List.range_succ,List.range_succ];simp only[List.filter_append,ab3,List.filter_nil,h0,h2,h3,ab6,if_true];cases listed.getD (i0+1) true<;>simp
theorem VA{ops:Array Oper}{is:List fG}(hl:is.length=ops.size)(hi:∀(j:Nat) (o:Oper) (i:fG),ops[j]?=some o→is[j]?=some i→IOk p ops o i)
  (H1:∀(j:Nat) (o:Oper),ops[j]?=some o→∀e∈o.after,Region.binds .any e=true→e.on<j) {i0 d1 d2 k:Nat} (ht:Ag (is.drop i0)=some (d1,d2,k)) (H2:∀(i j:Nat) (x y:fG),is[i]?=some x→is[j]?=some y→i<j→i∈(fO ops.toList []).getD j []∨indep cq x y=true∨(i=i0∧j=i0+1))
  {st':St} (hv:Ch st'.τ (is.drop i0)=true) {base:Nat} {F:Fence} {Q:Exit→Act→World→Prop}:∀(fuel:Nat) (listed:Array Bool) (st tgt:St) (own:List Loc) (ok:Nat→Prop) (w:World) (a:Act),listed.size=ops.size→(∀j,listed.getD j false=true→∀x∈(fO ops.toList []).getD j [],listed.getD x false=true) →
   (rem ops.size listed).length≤fuel→vi p cq ((rem ops.size listed).filterMap (is[·]?)) st tgt→zB p cq ⟨own,st.σ,ok,w⟩ st base F a→(tgt=st'∨(∃b,Twin d1 d2 b (b+1+k) st' tgt)∧listed.getD (i0+1) false=true) →
   (∀(t:St) (own':List Loc) (ok':Nat→Prop) (w':World) (a':Act),(t=st'∨∃b,Twin d1 d2 b (b+1+k) st' t)→zB p cq ⟨own',t.σ,ok',w'⟩ t base F a'→Step ⟨own,st.σ,ok,w⟩ ⟨own',t.σ,ok',w'⟩→Q .normal a' w')→wpAnyIn F 0 p .any ops Q fuel listed a w:=by
 obtain⟨x0,x1,x2,x3,hdrop,hk0,hk2,hk3⟩:=Xf (cq:=cq) ht
 have hn:ops.size=i0+4:=by
  have:=congrArg List.length hdrop;rw[ab4]at this;simp only[oi,pN]at this;omega
 have hget:∀j,is[i0+j]?=[x0,x1,x2,x3][j]? := fun j=>by rw[←hdrop,abb]
 have fin:∀(listed:Array Bool) (st tgt:St) (own:List Loc) (ok:Nat→Prop) (w:World) (a:Act),Region.ready .any ops listed=[]→listed.size=ops.size→vi p cq ((rem ops.size listed).filterMap (is[·]?)) st tgt→zB p cq ⟨own,st.σ,ok,w⟩ st base F a→(tgt=st'∨∃b,Twin d1 d2 b (b+1+k) st' tgt) →
   (∀(t:St) (own':List Loc) (ok':Nat→Prop) (w':World) (a':Act),(t=st'∨∃b,Twin d1 d2 b (b+1+k) st' t)→zB p cq ⟨own',t.σ,ok',w'⟩ t base F a'→Step ⟨own,st.σ,ok,w⟩ ⟨own',t.σ,ok',w'⟩→Q .normal a' w')→Q .normal a w:=by
  intro listed st tgt own ok w a hr hsz hR hN hT hQ
  have hnil:rem ops.size listed=[]:=by
   cases hrem:rem ops.size listed with
   |nil=>rfl
   |cons i0 r=>
    exfalso
    obtain⟨i,hmem,hmin⟩:∃i,i∈rem ops.size listed∧∀x∈rem ops.size listed,i≤x:=by
     have:=least (P:=fun i=>i∈rem ops.size listed) ⟨i0,by rw[hrem];simp⟩
     exact this
    obtain⟨h1,h2⟩:=si.1 hmem
    have hready:i∈Region.ready .any ops listed:=by
     rw[mem_ready];refine⟨h2,ops[i],by simp[h1],fun e he hb=>?_⟩
     have hlt:=H1 i ops[i] (by simp[h1]) e he hb
     cases hg:listed.getD e.on false with
     |true=>rfl
     |false=>
      have hsz':e.on<listed.size:=by omega
      have:e.on∈rem ops.size listed:=si.2 ⟨by omega,by simp[Array.getD,hsz']at hg ⊢;exact hg⟩
      have:=hmin _ this;omega
    rw[hr]at hready;cases hready
  rw[hnil]at hR;cases hR;exact hQ _ own ok w a hT hN (Step.refl _)
 intro fuel
 induction fuel with
 |zero=>
  intro listed st tgt own ok w a hsz hcl hlen hR hN hT hQ;have hnil:rem ops.size listed=[]:=Jm.1 (by omega)
  have hready:Region.ready .any ops listed=[]:=by
   cases hr:Region.ready .any ops listed with
   |nil=>rfl
   |cons i r=>
    exfalso;have hm:i∈Region.ready .any ops listed:=by rw[hr];simp
    rw[mem_ready]at hm;obtain⟨h0,o,ho,_⟩:=hm;have:i∈rem ops.size listed:=si.2 ⟨(Q6.1 ho).1,h0⟩;rw[hnil]at this;cases this
  exact⟨hready,fin listed st tgt own ok w a hready hsz hR hN (hT.imp id fun h=>h.1) hQ⟩
 |succ fuel ih=>
  intro listed st tgt own ok w a hsz hcl hlen hR hN hT hQ;refine⟨fun hr=>fin listed st tgt own ok w a hr hsz hR hN (hT.imp id fun h=>h.1) hQ,fun i hready=>?_⟩
  rw[mem_ready]at hready;obtain⟨h0,o,ho,hall⟩:=hready;have hin:i<ops.size:=(Q6.1 ho).1;have hmem:i∈rem ops.size listed:=si.2 ⟨hin,h0⟩;have hil:i<is.length:=by omega
  have hb:∀x∈(fO ops.toList []).getD i [],listed.getD x false=true:=by
   intro x hx;have:=DH ops.toList [] i o (by simpa using ho) (fun e he hb=>by simpa using H1 i o ho e he hb) x (by simpa using hx)
   rcases this with⟨e,he,hbd,rfl⟩|⟨e,he,hbd,hx⟩
   ·exact hall e he hbd
   ·exact hcl e.on (hall e he hbd) x hx
  have unl:∀j,j<ops.size→listed.getD j true=false→listed.getD j false=false:=fun j hj h=>by
   have hjs:j<listed.size:=by omega
   simp[Array.getD,hjs]at h ⊢;exact h
  have notb:∀j,listed.getD j true=false→j<i→j∉(fO ops.toList []).getD i []:=fun j h hj hx=>by
   have h1:=hb j hx;rw[unl j (by omega) h]at h1
   cases h1
  have hclose:∀j,(listed.setIfInBounds i true).getD j false=true→∀x∈(fO ops.toList []).getD j [],(listed.setIfInBounds i true).getD x false=true:=by
   intro j hj x hx;by_cases hji:j=i
   ·subst hji
    exact getD_set_true (hb x hx)
   ·rw[getD_set_ne false (fun h=>hji h.symm)]at hj
    exact getD_set_true (hcl j hj x hx)
  by_cases hc:i=i0+1∧listed.getD i0 true=false
  ·obtain⟨rfl,hc⟩:=hc
   have htgt:tgt=st':=by
    rcases hT with h|⟨_,h⟩
    ·exact h
    ·rw[unl _ hin h0]at h;cases h
   subst htgt
   have later:∀j y,is[j]?=some y→i0+1<j→y.op.kind cq=.w→listed.getD j true=false:=by
    intro j y hy hj hk;have hx0:is[i0]?=some x0:=hget 0;rcases H2 i0 j x0 y hx0 hy (by omega)with h|h|h
    ·have hjs:j<listed.size:=by have:=(gu.1 hy).1;omega
     cases hg:listed.getD j true with
     |false=>rfl
     |true=>
      have:listed.getD j false=true:=by simp[Array.getD,hjs]at hg ⊢;exact hg
      have:=hcl j this i0 h;rw[unl i0 (by omega) hc]at this
      cases this
    ·simp only[indep,yE,hk0,hk]at h
     exact absurd h.2 (by decide)
    ·omega
   have u2:=later (i0+2) x2 (hget 2) (by omega) hk2
   have u3:=later (i0+3) x3 (hget 3) (by omega) hk3
   have r1:=TN hn hc u2 u3;rw[h0,if_neg (by simp)]at r1
   have r2:=TN (listed:=listed.setIfInBounds (i0+1) true) hn (by rw[getD_set_ne true (by omega)];exact hc) (by rw[getD_set_ne true (by omega)];exact u2) (by rw[getD_set_ne true (by omega)];exact u3)
   have hself:(listed.setIfInBounds (i0+1) true).getD (i0+1) true=true:=by
    have:i0+1<listed.size:=by omega
    simp[Array.getD,this]
   have hflt:((List.range i0).filter fun i=>!(listed.setIfInBounds (i0+1) true).getD i true)=(List.range i0).filter fun i=>!listed.getD i true :=
    List.filter_congr fun x hx=>by rw[getD_set_ne true (by rw[abw]at hx;omega)]
   rw[hself,if_pos rfl,hflt]at r2;have e0:is[i0]?=some x0:=hget 0;have e1:is[i0+1]?=some x1:=hget 1;have e2:is[i0+2]?=some x2:=hget 2;have e3:is[i0+3]?=some x3:=hget 3;rw[r1,aby]at hR;simp only[Ec,yK,abQ,List.filterMap_nil,e0,e1,e2,e3]at hR;obtain⟨sa,ra,rb⟩:=yc.1 hR;rw[hdrop]at ht hv;obtain⟨j1,j2,post,st2,hj,k1,k2⟩:=afO ht hv rb;simp only[List.cons.injEq]at hj;obtain⟨rfl,rfl,rfl⟩:=hj;have hR2:=yc.2 ⟨sa,ra,k1⟩
   obtain⟨s1,hf,hR'⟩:=front hR2 rfl (fun x hx=>by
    rw[List.mem_filterMap]at hx;obtain⟨j,hj,hx⟩:=hx;rw[List.mem_filter,abw]at hj;have hj2:listed.getD j true=false:=by simpa using hj.2
    rcases H2 j (i0+1) x x1 hx e1 (by omega)with h|h|h
    ·exact absurd h (notb j hj2 (by omega))
    ·exact .inl h
    ·omega)
   refine Jd ho (hi (i0+1) o x1 ho e1) hf hN (fun own1 ok1 w1 a1 hN1 st1=>?_)
   refine ih (listed.setIfInBounds (i0+1) true) s1 st2 own1 ok1 w1 a1 (by simpa using hsz) hclose ?_ ?_ hN1 (.inr ⟨⟨_,k2⟩,?_⟩) (fun t own2 ok2 w2 a2 hT2 hN2 s2=>hQ t own2 ok2 w2 a2 hT2 hN2 (st1.trans s2))
   ·rw[r2]
    rw[r1]at hlen;simp at hlen ⊢;omega
   ·rw[r2,aby]
    simp only[yK,abQ,List.filterMap_nil,e0,e2,e3];exact hR'
   ·have:i0+1<listed.size:=by omega
    simp[Array.getD,this]
  ·obtain⟨pre,post,e1,e2,e3⟩:=ON hsz hmem
   rw[e1,aby,abQ]at hR;simp only[oh hil]at hR
   obtain⟨s1,hf,hR'⟩:=front hR rfl (fun x hx=>by
    rw[List.mem_filterMap]at hx;obtain⟨j,hj,hx⟩:=hx;have h2:listed.getD j true=false:=(si.1 (by rw[e1];simp[hj]:j∈rem ops.size listed)).2
    rcases H2 j i x is[i] hx (oh hil) (e3 j hj)with h|h|h
    ·exact absurd h (notb j h2 (e3 j hj))
    ·exact .inl h
    ·exact absurd ⟨h.2,h.1 ▸ h2⟩ hc)
   refine Jd ho (hi i o is[i] ho (oh hil)) hf hN (fun own1 ok1 w1 a1 hN1 st1=>?_)
   refine ih (listed.setIfInBounds i true) s1 tgt own1 ok1 w1 a1 (by simpa using hsz) hclose ?_ ?_ hN1 (hT.imp id fun h=>⟨h.1,getD_set_true h.2⟩) (fun t own2 ok2 w2 a2 hT2 hN2 s2=>hQ t own2 ok2 w2 a2 hT2 hN2 (st1.trans s2))
   ·rw[e2]
    rw[e1]at hlen;simp at hlen ⊢;omega
   ·rw[e2,aby]
    exact hR'
theorem adk(hm:p.follows .mixedOrders=true):Xo p cq:=by
 intro id ops is hl hi st st' hd hR own ok w a base F hN Q hQ
 have edges:∀(h:(ops.toList.zipIdx.all fun(o,i)=>o.after.all fun e=>!Region.binds .any e ||e.on<i)=true) (j:Nat) (o:Oper),ops[j]?=some o→∀e∈o.after,Region.binds .any e=true→e.on<j:=by
  intro h j o ho e he hb;rw[AS]at h;have h1:=h (o,j) (by rw[abe];simpa using ho)
  simp only[Array.all_eq_true_iff_forall_mem]at h1;have h2:=h1 e he;simpa[hb]using h2
 have H1:∀(j:Nat) (o:Oper),ops[j]?=some o→∀e∈o.after,Region.binds .any e=true→e.on<j:=by
  rcases hd with hd|⟨prs,hd,_⟩
  ·unfold DN at hd
   simp only[yE]at hd;exact edges hd.1
  ·unfold xL at hd
   simp only[yE]at hd;exact edges hd.1.1
 have hstep:Step ⟨[],[],ok,w⟩ ⟨[],[],ok,w.drew⟩:=by
  refine⟨⟨fun _ h=>h,fun _ _=>rfl,fun b s hs=>?_⟩,qj _,fun _ _ _=>rfl,fun _ h=>.inl h,?_,rfl⟩
  ·simp[View.sh]at hs
  ·rintro r ⟨b,l,o,h1,_⟩;simp at h1
 obtain⟨k1,k2⟩:=hN.s.UP hstep (ok2:=ok) (fun _ h=>h) (fun _ h=>.inl h) (fun b hb=>hN.s.xe b hb)
 have hrem:rem ops.size (Array.replicate ops.size false)=List.range ops.size:=by
  unfold rem;rw[List.filter_eq_self];intro x hx;rw[abw]at hx;simp[Array.getD,hx]
 have hfm:(List.range ops.size).filterMap (is[·]?)=is:=by
  rw[←hl];exact GU is
 have hnone:∀j,(Array.replicate ops.size false).getD j false=true→∀x∈(fO ops.toList []).getD j [],(Array.replicate ops.size false).getD x false=true:=by
  intro j hj;exfalso;by_cases h:j<ops.size
  ·simp[Array.getD,h]at hj
  ·simp[Array.getD,h]at hj
 have hd':(DN cq ops.toList is=true∨∃prs,xL cq ops.toList is prs=true∧x9 is prs st'.τ=true)∨∃prs,xL cq ops.toList is prs=true∧Af is prs st st'=true:=by
  rcases hd with hd|⟨prs,hd,hro⟩
  ·exact .inl (.inl hd)
  ·rw[OZ]at hro
   rcases hro with h|h
   ·exact .inl (.inr ⟨prs,hd,h⟩)
   ·exact .inr ⟨prs,hd,h⟩
 rcases hd' with hd|⟨prs,hd,htw⟩
 rotate_left
 ·unfold Af at htw
  split at htw
  case h_2=>cases htw
  rename_i i0 j0;split at htw
  case h_2=>cases htw
  rename_i d1 d2 k ht;simp only[yE,beq_iff_eq]at htw;obtain⟨⟨rfl,hv⟩,htw⟩:=htw;split at htw
  case h_2=>cases htw
  rename_i b _ _ _ hb;simp only[yE,decide_eq_true_eq,AS,abw,OZ,beq_iff_eq]at htw;obtain⟨⟨hle,hob⟩,hτ⟩:=htw
  have H2:∀(i j:Nat) (x y:fG),is[i]?=some x→is[j]?=some y→i<j→i∈(fO ops.toList []).getD j []∨indep cq x y=true∨(i=i0∧j=i0+1):=by
   intro i j x y hx hy hij;unfold xL at hd;simp only[yE,AS]at hd;have h1:=hd.2 (y,j) (by rw[abe];simpa using hy) (x,i) (by rw[abe];simpa using hx)
   simp only[hij,decide_true,abU,NW,OZ,yE]at h1;rcases h1 with(h|h)|⟨_,h⟩
   ·exact .inl (by simpa using h)
   ·exact .inr (.inl h)
   ·exact .inr (.inr (by simpa using h))
  refine wpIn_region_any hm (VA hl hi H1 ht H2 hv ops.size _ st st' own ok w.drew a (by simp) hnone (by rw[hrem];simp) (by rw[hrem,hfm];exact hR) (hN.step k2 k1) (.inl rfl) (fun t own' ok' w' a' hT hN' s'=>?_))
  rcases hT with rfl|⟨b',hT⟩
  ·exact hQ own' ok' w' a' hN' (k2.trans s')
  ·have hbb:b=b':=by have:=hT.g1;rw[hb]at this;cases this;rfl
   subst hbb
   obtain⟨own2,hN2,hS2⟩:=hN'.alO (n:=b-k) hT (by omega) (by omega) (AS.2 hob) (fun t h0 h1 h2=>by
    rcases hτ t h0 with(h|h)|h
    ·exact absurd h h1
    ·exact absurd h h2
    ·exact h)
   exact hQ own2 ok' w' a' hN2 (hS2 ⟨own,st.σ,ok,w⟩ (by simp only[];omega) (k2.trans s'))
 have H2:∀(i j:Nat) (x y:fG),is[i]?=some x→is[j]?=some y→i<j→i∈(fO ops.toList []).getD j []∨indep cq x y=true∨(Yv cq is∧zO x y=true∧jr st'.τ x y=true):=by
  intro i j x y hx hy hij;have mx:(x,i)∈is.zipIdx:=by rw[abe];simpa using hx
  have my:(y,j)∈is.zipIdx:=by rw[abe];simpa using hy
  rcases hd with hd|⟨prs,hd,hro⟩
  ·unfold DN at hd
   simp only[yE,AS]at hd;have h1:=hd.2 (y,j) my (x,i) mx;simp only[hij,decide_true,abU,NW,OZ]at h1;rcases h1 with h|h
   ·exact .inl (by simpa using h)
   ·exact .inr (.inl h)
  ·unfold xL at hd
   simp only[yE,AS]at hd;obtain⟨⟨_,hd2⟩,hd3⟩:=hd
   have hssa:Yv cq is:=by
    have key:∀(l:List fG) (k:Nat),(∀(a b:Nat) (x y:fG),l[a]?=some x→l[b]?=some y→a≤b→x.op.kind cq≠.q0→∀d,y.dst=some d→d∉x.looks)→Yv cq l:=by
     intro l
     induction l with
     |nil=>intro _ _;exact .nil
     |cons a l ih=>
      intro k h;refine .cons _ _ (fun hk0 z hz d hd=>?_) (ih k fun i j x y hx hy hij=>h (i+1) (j+1) x y (by simpa using hx) (by simpa using hy) (by omega))
      obtain⟨b,hb⟩:=Xr hz;exact h 0 b a z (by simp) hb (UC _) hk0 d hd
    refine key is 0 fun a b x y hx hy hab hk0 d hdd=>?_
    have h1:=hd2 (y,b) (by rw[abe];simpa using hy) (x,a) (by rw[abe];simpa using hx)
    simp only[OZ,decide_eq_true_eq]at h1;rcases h1 with(h1|h1)|h1
    ·omega
    ·cases h1
    ·rw[hdd]at h1;simpa using h1
   have h1:=hd3 (y,j) my (x,i) mx;simp only[hij,decide_true,abU,NW,OZ,yE]at h1;rcases h1 with(h|h)|⟨h,hm⟩
   ·exact .inl (by simpa using h)
   ·exact .inr (.inl h)
   ·refine .inr (.inr ⟨hssa,h,?_⟩)
    unfold x9 at hro;rw[AS]at hro;have:=hro (i,j) (by simpa using hm)
    simpa only[hx,hy]using this
 exact wpIn_region_any hm (YV hl hi H1 H2 rfl ops.size _ st own ok w.drew a (by simp) hnone (by rw[hrem];simp) (by rw[hrem,hfm];exact hR) (hN.step k2 k1) (fun own' ok' w' a' hN' s'=>hQ own' ok' w' a' hN' (k2.trans s')))
end Go.AE
