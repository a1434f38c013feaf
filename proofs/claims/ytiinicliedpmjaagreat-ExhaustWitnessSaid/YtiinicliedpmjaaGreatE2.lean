import Derived.Test.YtiinicliedpmjaaGreatE1
import Derived.Test.YtiinicliedpmjaaGreatDa
namespace Go.AE.S
open Go Go.AE
set_option linter.unusedSimpArgs false
set_option linter.unusedVariables false
variable {τ:Tm} {σ:Store} {rd:Option Nat}
set_option maxHeartbeats 4000000 in
theorem r_BitsX (l:List V2) (hw:∀ v∈l,okV2 v) (hl:l.length≤1000000):R P f_r08_Bits [.lst (l.map vrow)]=some (.int .i64 (bitsV l)):=by
  have h:=loop_to (P:=P) (nt:=24) (lv:=[0,3,4]) (b:=B0_r08_Bits) (rd:=none) (as:=l) (fun i (n:Int)=>e_bt l n i) (fun _=>[]) bitsF outBt (fun _ n=>0≤n∧n≤80)
    (fun i v n hv hi hs=>by
      have hlt:((i:Int)<l.length)=True:=by simpa using hi
      have hx:=fun σ=>v_iadr (k:=.i64) (es:=2) (σ:=σ) (map_get (f:=vrow) hv) (vr_len v)
      have hok:=hw v (List.mem_of_getElem? hv)
      unfold okV2 at hok
      obtain ⟨n0,n1⟩:=hs
      by_cases h:n≤16
      · have e1:(n≤16)=True:=by simp [h]
        refine ⟨fun s' he=>?_,?_⟩
        · simp only [bitsF,h,if_true,Sum.inl.injEq] at he
          omega
        · have hwr:IntKind.i64.wrap (n+v.w)=n+v.w:=IntWalk.i64_in _ (by omega)
          simp only [B0_r08_Bits,bitsF,h,if_true]
          simp (disch:=omega) only [eqZ,↓gc_len,seval,-List.reduceReplicate,reduceCtorEq,allP,hlt,hx,List.length_map,vr_f1,vr_g1,e1,hwr,e_bt]
      · have e1:(n≤16)=False:=by simp [h]
        refine ⟨fun s' he=>?_,?_⟩
        · simp only [bitsF,h,if_false] at he
          cases he
        · simp only [B0_r08_Bits,bitsF,h,if_false]
          simp (disch:=omega) only [eqZ,↓gc_len,seval,-List.reduceReplicate,reduceCtorEq,allP,hlt,hx,List.length_map,e1,e_bt,outBt]) (fun i s=>rfl) 0 (by omega)
  unfold bitsV
  rcases fold_bits l 0 0 with hf | hf
  · rw [hf] at h
    obtain ⟨_,h⟩:=h
    generalize bitsN 0 l=n at *
    have h':loopAt P L0_r08_Bits (e_bt l 0 0) [] 24 none=_:=h
    simp only [e_bt] at h'
    (rw [r_r08_Bits (lbY rfl),F_r08_Bits];simp (disch:=omega) only [eqZ,↓gc_len,seval,-List.reduceReplicate,reduceCtorEq,allP,k0_r08_Bits,h',B0_r08_Bits,Int.lt_irrefl,List.length_map])
  · rw [hf] at h
    generalize bitsN 0 l=n at *
    obtain ⟨⟨e',τ',σ',nt',rd'⟩,g1,g2,g3,g4,g5⟩:=h
    simp only at g2 g3 g4 g5
    subst g2;subst g4;subst g5
    have h':loopAt P L0_r08_Bits (e_bt l 0 0) [] 24 none=_:=g1
    simp only [e_bt] at h'
    (rw [r_r08_Bits (lbY rfl),F_r08_Bits];simp (disch:=omega) only [eqZ,↓gc_len,seval,-List.reduceReplicate,reduceCtorEq,allP,k0_r08_Bits,h',g3])
theorem insC_eq (s:List V2) (v:V2):insC s v=match s[posN v.name s]? with
    | some a=>if a.name=v.name then (if a.w=v.w then some (insV s v) else none) else some (insV s v)
    | none=>some (insV s v):=by
  have h:=insU_eq s (.mk 1 v.w 0 v.name [])
  rw [if_pos (show (Term.mk 1 v.w 0 v.name []).op=1 from rfl)] at h
  have hv:(⟨(Term.mk 1 v.w 0 v.name []).name,(Term.mk 1 v.w 0 v.name []).w⟩:V2)=v:=rfl
  rw [hv] at h
  unfold insU at h
  rw [if_pos (show (Term.mk 1 v.w 0 v.name []).op=1 from rfl),hv] at h
  have hn:(Term.mk 1 v.w 0 v.name []).name=v.name:=rfl
  rw [hn] at h
  unfold insC
  unfold hitN at h
  cases hg:s[posN v.name s]? with
  | none=>
    rw [hg] at h
    simp only [Bool.false_eq_true,if_false] at h ⊢
    rw [h]
  | some a=>
    rw [hg] at h
    simp only at h ⊢
    by_cases c:a.name=v.name
    · simp only [c,decide_true,if_true] at h ⊢
      rw [← h]
    · simp only [c,decide_false,Bool.false_eq_true,if_false] at h ⊢
      rw [h]
theorem insV_memW {s:List V2} (hs:Sorted s) {v:V2} (h:∀ a∈s,a.name=v.name→a.w=v.w):∀ x,x∈insV s v↔x∈s∨x=v:=by
  intro x
  rw [insV_iff hs]
  constructor
  · rintro (h1 | ⟨h1,_⟩)
    · exact .inl h1
    · exact .inr h1
  · rintro (h1 | rfl)
    · exact .inl h1
    · by_cases c:∃ a∈s,a.name=x.name
      · obtain ⟨a,ha,hn⟩:=c
        have:a=x:=v2_ext hn (h a ha hn)
        exact .inl (this ▸ ha)
      · exact .inr ⟨rfl,fun a ha e=>c ⟨a,ha,e⟩⟩
theorem name_uniq {s:List V2} (hs:Sorted s) {a b:V2} (ha:a∈s) (hb:b∈s) (h:a.name=b.name):a=b:=by
  obtain ⟨i,hi,rfl⟩:=List.getElem_of_mem ha
  obtain ⟨j,hj,rfl⟩:=List.getElem_of_mem hb
  rcases Nat.lt_trichotomy i j with c | c | c
  · have:=List.pairwise_iff_getElem.1 hs i j hi hj c
    rw [h,slt_irrefl] at this;cases this
  · subst c;rfl
  · have:=List.pairwise_iff_getElem.1 hs j i hj hi c
    rw [h,slt_irrefl] at this;cases this
def Clash (l:List V2):Prop:=∃ a∈l,∃ b∈l,a.name=b.name∧a.w≠b.w
theorem insC_some {s a:List V2} {v:V2} (hs:Sorted s) (h:insC s v=some a):Sorted a∧∀ x,x∈a↔x∈s∨x=v:=by
  rw [insC_eq] at h
  have key:(∀ b∈s,b.name=v.name→b.w=v.w)→a=insV s v→Sorted a∧∀ x,x∈a↔x∈s∨x=v:=fun h1 h2=>by
    subst h2
    exact ⟨insV_sorted hs,insV_memW hs h1⟩
  have hnoname:(∀ c,s[posN v.name s]? = some c→¬ c.name=v.name)→∀ b∈s,b.name=v.name→b.w=v.w:=by
    intro hc b hb hn
    exfalso
    have:∀ (r:List V2),Sorted r→b∈r→r[posN v.name r]? = some b:=by
      intro r
      induction r with
      | nil=>intro _ hb;simp at hb
      | cons c r ih=>
        intro hr hb
        have hr':=List.pairwise_cons.1 hr
        rcases List.mem_cons.1 hb with rfl | hb
        · unfold posN
          rw [if_neg (by rw [hn,slt_irrefl];simp)]
          rfl
        · have hlt:=hr'.1 b hb
          unfold posN
          rw [if_pos (by rw [← hn];exact hlt)]
          exact ih hr'.2 hb
    exact hc b (this s hs hb) hn
  cases hg:s[posN v.name s]? with
  | none=>
    rw [hg] at h
    cases h
    exact key (hnoname (by rw [hg];intro c hc;cases hc)) rfl
  | some c=>
    rw [hg] at h
    simp only at h
    by_cases c1:c.name=v.name
    · rw [if_pos c1] at h
      by_cases c2:c.w=v.w
      · rw [if_pos c2] at h
        cases h
        refine key (fun b hb hn=>?_) rfl
        have:=name_uniq hs hb (List.mem_of_getElem? hg) (hn.trans c1.symm)
        rw [this];exact c2
      · rw [if_neg c2] at h;cases h
    · rw [if_neg c1] at h
      cases h
      exact key (hnoname (by rw [hg];intro c' hc';cases hc';exact c1)) rfl
theorem insC_none {s:List V2} {v:V2} (h:insC s v=none):∃ a∈s,a.name=v.name∧a.w≠v.w:=by
  rw [insC_eq] at h
  cases hg:s[posN v.name s]? with
  | none=>rw [hg] at h;cases h
  | some c=>
    rw [hg] at h
    simp only at h
    by_cases c1:c.name=v.name
    · rw [if_pos c1] at h
      by_cases c2:c.w=v.w
      · rw [if_pos c2] at h;cases h
      · exact ⟨c,List.mem_of_getElem? hg,c1,c2⟩
    · rw [if_neg c1] at h;cases h
theorem mrgV_some:∀ {l s a:List V2},Sorted s→mrgV s l=some a→Sorted a∧∀ x,x∈a↔x∈s∨x∈l
  | [],s,a,hs,h=>by cases h;exact ⟨hs,fun x=>by simp⟩
  | v :: l,s,a,hs,h=>by
    unfold mrgV at h
    cases hi:insC s v with
    | none=>rw [hi] at h;cases h
    | some b=>
      rw [hi] at h
      obtain ⟨h1,h2⟩:=insC_some hs hi
      obtain ⟨h3,h4⟩:=mrgV_some (l:=l) h1 h
      refine ⟨h3,fun x=>?_⟩
      rw [h4,h2,List.mem_cons]
      constructor
      · rintro ((h | h) | h)
        · exact .inl h
        · exact .inr (.inl h)
        · exact .inr (.inr h)
      · rintro (h | h | h)
        · exact .inl (.inl h)
        · exact .inl (.inr h)
        · exact .inr h
theorem mrgV_none:∀ {l s:List V2},Sorted s→mrgV s l=none→Clash (s++l)
  | [],s,hs,h=>by cases h
  | v :: l,s,hs,h=>by
    unfold mrgV at h
    cases hi:insC s v with
    | none=>
      obtain ⟨a,ha,h1,h2⟩:=insC_none hi
      exact ⟨a,by simp [ha],v,by simp,h1,h2⟩
    | some b=>
      rw [hi] at h
      obtain ⟨h1,h2⟩:=insC_some hs hi
      obtain ⟨a,ha,c,hc,h3⟩:=mrgV_none (l:=l) h1 h
      have conv:∀ x,x∈b++l→x∈s++v :: l:=fun x hx=>by
        rcases List.mem_append.1 hx with hx | hx
        · rcases (h2 x).1 hx with hx | rfl
          · simp [hx]
          · simp
        · simp [hx]
      exact ⟨a,conv a ha,c,conv c hc,h3⟩
theorem mrgV_clash {l a:List V2} (h:mrgV [] l=some a):¬ Clash l:=by
  obtain ⟨h1,h2⟩:=mrgV_some (by simp [Sorted]) h
  rintro ⟨x,hx,y,hy,hn,hw⟩
  have:=name_uniq h1 ((h2 x).2 (.inr hx)) ((h2 y).2 (.inr hy)) hn
  exact hw (by rw [this])
def StrictW (l:List V2):Prop:=l.Pairwise fun a b=>ltNW a b=true
theorem runV_strict:∀ (l:List V2) (p:V2),SortW (p :: l)→StrictW (p :: runV p l)
  | [],p,_=>by simp [runV,StrictW]
  | a :: r,p,h=>by
    have h1:=List.pairwise_cons.1 h
    have h2:=List.pairwise_cons.1 h1.2
    unfold runV
    by_cases c:a.name=p.name∧a.w=p.w
    · rw [if_pos c]
      exact runV_strict r p (List.pairwise_cons.2 ⟨fun b hb=>h1.1 b (by simp [hb]),h2.2⟩)
    · rw [if_neg c]
      have ih:=runV_strict r a h1.2
      have hpa:ltNW p a=true:=by
        rcases ltNW_tri p a with h3 | rfl | h3
        · exact h3
        · exact absurd ⟨rfl,rfl⟩ c
        · rw [h1.1 a (by simp)] at h3;cases h3
      refine List.pairwise_cons.2 ⟨fun b hb=>?_,ih⟩
      rcases List.mem_cons.1 hb with rfl | hb
      · exact hpa
      · exact ltNW_trans hpa ((List.pairwise_cons.1 ih).1 b hb)
theorem compV_strict {l:List V2} (h:SortW l):StrictW (compV l):=by
  cases l with
  | nil=>simp [compV,StrictW]
  | cons a r=>exact runV_strict r a h
theorem varsX_strict (l:List Term):StrictW (varsX l):=compV_strict (isort_sortW _)
theorem dupA_iff (K:List V2):∀ (r:List V2) (i:Nat),K.drop i=r→(dupA K r i=true↔∃ j,i≤j∧0<j∧∃ u v,K[j-1]? = some u∧K[j]? = some v∧u.name=v.name)
  | [],i,h=>by
    have hl:K.length≤i:=List.drop_eq_nil_iff.1 h
    simp only [dupA,Bool.false_eq_true,false_iff]
    rintro ⟨j,h1,h2,u,v,h3,h4,h5⟩
    have:=(List.getElem?_eq_some_iff.1 h4).1
    omega
  | w :: r,i,h=>by
    have hi:i<K.length:=by
      have:=congrArg List.length h
      simp at this;omega
    have hw:K[i]? = some w:=by
      have:=congrArg (·[0]?) h
      simpa using this
    have hr:K.drop (i+1)=r:=by
      have:=congrArg (List.drop 1) h
      simpa using this
    unfold dupA
    rw [Bool.or_eq_true,dupA_iff K r (i+1) hr]
    constructor
    · rintro (h1 | ⟨j,h1,h2,h3⟩)
      · unfold cndX at h1
        simp only [Bool.and_eq_true,decide_eq_true_eq] at h1
        obtain ⟨h1,h2⟩:=h1
        cases hg:K[i-1]? with
        | none=>rw [hg] at h2;cases h2
        | some u=>
          rw [hg] at h2
          exact ⟨i,Nat.le_refl _,h1,u,w,hg,hw,by simpa using h2⟩
      · exact ⟨j,by omega,h2,h3⟩
    · rintro ⟨j,h1,h2,u,v,h3,h4,h5⟩
      by_cases e:j=i
      · subst e
        left
        unfold cndX
        rw [h3]
        rw [hw] at h4
        cases h4
        simp [h2,h5]
      · exact .inr ⟨j,by omega,h2,u,v,h3,h4,h5⟩
theorem ltNW_names {a b:V2} (h:ltNW a b=true):slt b.name a.name=false:=by
  rcases (ltNW_iff a b).1 h with h | ⟨h,_⟩
  · exact slt_asym h
  · rw [h,slt_irrefl]
theorem dup_clash {K:List V2} (hs:StrictW K):dupA K K 0=true↔Clash K:=by
  rw [dupA_iff K K 0 rfl]
  constructor
  · rintro ⟨j,_,h2,u,v,h3,h4,h5⟩
    obtain ⟨i1,e1⟩:=List.getElem?_eq_some_iff.1 h3
    obtain ⟨i2,e2⟩:=List.getElem?_eq_some_iff.1 h4
    have h6:=List.pairwise_iff_getElem.1 hs (j-1) j i1 i2 (by omega)
    rw [e1,e2] at h6
    refine ⟨u,List.mem_of_getElem? h3,v,List.mem_of_getElem? h4,h5,fun e=>?_⟩
    have:u=v:=v2_ext h5 e
    rw [this,ltNW_irrefl] at h6
    cases h6
  · rintro ⟨a,ha,b,hb,hn,hw⟩
    have main:∀ (i j:Nat) (hi:i<K.length) (hj:j<K.length),i<j→K[i].name=K[j].name→∃ j,0≤j∧0<j∧∃ u v,K[j-1]? = some u∧K[j]? = some v∧u.name=v.name:=by
      intro i j hi hj hij h
      have hi1:i+1<K.length:=by omega
      refine ⟨i+1,by omega,by omega,K[i],K[i+1],by simp [hi],by simp [hi1],?_⟩
      have h1:=List.pairwise_iff_getElem.1 hs i (i+1) hi hi1 (by omega)
      by_cases e:i+1=j
      · subst e;exact h
      · have h2:=List.pairwise_iff_getElem.1 hs (i+1) j hi1 hj (by omega)
        have k1:=ltNW_names h1
        have k2:=ltNW_names h2
        rw [← h] at k2
        rcases slt_tri K[i].name K[i+1].name with h3 | h3 | h3
        · rw [h3] at k2;cases k2
        · exact h3
        · rw [h3] at k1;cases k1
    obtain ⟨i,hi,rfl⟩:=List.getElem_of_mem ha
    obtain ⟨j,hj,rfl⟩:=List.getElem_of_mem hb
    rcases Nat.lt_trichotomy i j with c | c | c
    · exact main i j hi hj c hn
    · subst c;exact absurd rfl hw
    · exact main j i hj hi c hn.symm
theorem clash_congr {a b:List V2} (h:∀ x,x∈a↔x∈b):Clash a↔Clash b:=by
  constructor
  · rintro ⟨x,hx,y,hy,h1⟩;exact ⟨x,(h x).1 hx,y,(h y).1 hy,h1⟩
  · rintro ⟨x,hx,y,hy,h1⟩;exact ⟨x,(h x).2 hx,y,(h y).2 hy,h1⟩
theorem varsX_all {l:List Term} {v:V2}:v∈varsX l↔v∈allVs l:=by
  unfold varsX
  rw [compV_mem,isort_mem]
theorem dup_all (l:List Term):dupA (varsX l) (varsX l) 0=true↔Clash (allVs l):=by
  rw [dup_clash (varsX_strict l)]
  exact clash_congr fun x=>varsX_all
theorem noclash_sorted {K:List V2} (hs:StrictW K) (hc:¬ Clash K):Sorted K:=by
  refine List.pairwise_iff_getElem.2 fun i j hi hj hij=>?_
  have h:=List.pairwise_iff_getElem.1 hs i j hi hj hij
  rcases (ltNW_iff _ _).1 h with h1 | ⟨h1,h2⟩
  · exact h1
  · exact absurd ⟨K[i],List.getElem_mem _,K[j],List.getElem_mem _,h1,by omega⟩ hc
theorem mrg_varsX (l:List Term):mrgV [] (allVs l)=if dupA (varsX l) (varsX l) 0=true then none else some (varsX l):=by
  by_cases c:Clash (allVs l)
  · rw [if_pos ((dup_all l).2 c)]
    cases h:mrgV [] (allVs l) with
    | none=>rfl
    | some a=>exact absurd c (mrgV_clash h)
  · rw [if_neg (fun h=>c ((dup_all l).1 h))]
    cases h:mrgV [] (allVs l) with
    | none=>
      have:=mrgV_none (by simp [Sorted]) h
      rw [List.nil_append] at this
      exact absurd this c
    | some a=>
      obtain ⟨h1,h2⟩:=mrgV_some (by simp [Sorted]) h
      have hK:Sorted (varsX l):=noclash_sorted (varsX_strict l) (fun h=>c ((clash_congr fun x=>varsX_all).1 h))
      rw [sort_uniq h1 hK (fun x=>by rw [h2,varsX_all];simp)]
theorem bits_sum:∀ (l:List V2) (n:Int),(∀ v∈l,okV2 v)→(16<bitsN n l↔16<n+sumW l)∧(n+sumW l≤16→bitsN n l=n+sumW l)
  | [],n,_=>by simp [bitsN,sumW]
  | v :: l,n,h=>by
    have hv:=h v (by simp)
    unfold okV2 at hv
    have hp:∀ (l:List V2),(∀ v∈l,okV2 v)→0≤sumW l:=by
      intro l
      induction l with
      | nil=>intro _;simp [sumW]
      | cons a l ih=>
        intro h
        have:=h a (by simp)
        unfold okV2 at this
        have:=ih (fun v hv=>h v (by simp [hv]))
        unfold sumW
        omega
    have hs:=hp l (fun v hv=>h v (by simp [hv]))
    unfold bitsN sumW
    by_cases c:n≤16
    · rw [if_pos c]
      have:=bits_sum l (n+v.w) (fun v hv=>h v (by simp [hv]))
      rw [Int.add_assoc] at this
      exact this
    · rw [if_neg c]
      omega
theorem bitsV_sum {l:List V2} (h:∀ v∈l,okV2 v):(16<bitsV l↔16<sumW l)∧(sumW l≤16→bitsV l=sumW l):=by
  have:=bits_sum l 0 h
  rw [Int.zero_add] at this
  unfold bitsV
  omega
abbrev e_rW (l:List Term) (i:Int):List (Nat×AV):=[(0,.p (.lst (l.map Term.row))),(4,.p (.int .i64 i))]
set_option maxHeartbeats 4000000 in
theorem l0_rVars (l:List Term) (ht:∀ t∈l,TOk t∧t.count≤1000000) (hl:l.length≤100):if chkL l=0 then loopAt P L0_r11_Vars (e_rW l 0) [] 33 none=back P [0,4] B0_r11_Vars 0 (exec P B0_r11_Vars ⟨tm (e_rW l l.length),[],33,none⟩) else ∃ r,loopAt P L0_r11_Vars (e_rW l 0) [] 33 none=some r∧outX (chkL l) r:=by
  have h:=loop_to (P:=P) (nt:=33) (lv:=[0,4]) (b:=B0_r11_Vars) (rd:=none) (as:=l) (fun k (_:Unit)=>e_rW l k) (fun _=>[]) (fun _ _ t=>if checkT t=0 then .inl () else .inr (checkT t)) outX (fun _ _=>True)
    (fun i t s hv hi hs=>by
      refine ⟨fun _ _=>trivial,?_⟩
      have hlt:((i:Int)<l.length)=True:=by simpa using hi
      have hx:=fun σ=>v_iadr (k:=.i64) (es:=5) (σ:=σ) (map_get (f:=Term.row) hv) t.row_len
      obtain ⟨h1,h2⟩:=ht t (List.mem_of_getElem? hv)
      have hk:=s_r06_Check t h1 h2
      rcases Classical.propComplete (checkT t=0) with c | c
      · simp only [B0_r11_Vars,of_eq_true c,if_true]
        rw [of_eq_true c] at hk
        simp (disch:=omega) only [eqZ,↓gc_len,seval,-List.reduceReplicate,reduceCtorEq,allP,hlt,hx,List.length_map,q_r06_Check,hk,e_rW,outX]
      · simp only [B0_r11_Vars,c,if_false]
        simp (disch:=omega) only [eqZ,↓gc_len,seval,-List.reduceReplicate,reduceCtorEq,allP,hlt,hx,List.length_map,q_r06_Check,hk,c,e_rW,outX]) (fun i s=>rfl) () trivial
  rw [fold_chk] at h
  by_cases hb:chkL l=0
  · rw [if_pos hb] at h;rw [if_pos hb];exact h.2
  · rw [if_neg hb] at h;rw [if_neg hb];exact h
set_option maxHeartbeats 8000000 in
theorem s_r11_Vars (l:List Term) (ht:∀ t∈l,TOk t∧t.count≤10000) (hl:l.length≤100):R P f_r11_Vars [.lst (l.map Term.row)]=some (.tup [.lst ((varsR l).map vrow),.int .i64 (varsE l)]):=by
  have ht6:∀ t∈l,TOk t∧t.count≤1000000:=fun t h=>⟨(ht t h).1,by have:=(ht t h).2;omega⟩
  have h0:=l0_rVars l ht6 hl
  have ha:=s_r11_all l (fun t h=>(ht6 t h).2) hl
  unfold mrgP at ha
  rw [mrg_varsX] at ha
  have hK:=varsX_len (l:=l) 10000 (fun t h=>(ht t h).2)
  have hl2:l.length*10000≤100*10000:=Nat.mul_le_mul_right _ hl
  simp only [e_rW] at h0
  rcases Classical.propComplete (chkL l=0) with c0 | c0
  rotate_left
  · rw [if_neg (of_eq_false c0)] at h0
    have c0':=of_eq_false c0
    have hE:varsE l=chkL l:=by unfold varsE;rw [if_pos c0']
    have hR:varsR l=[]:=by unfold varsR;rw [hE,if_neg c0']
    rw [hE,hR]
    obtain ⟨⟨e',τ',σ',nt',rd'⟩,g1,g2,g3,g4⟩:=h0
    simp only at g2 g3 g4
    subst g2
    (rw [r_r11_Vars (lbY rfl),F_r11_Vars];simp (disch:=omega) only [eqZ,↓gc_len,seval,-List.reduceReplicate,reduceCtorEq,allP,k0_r11_Vars,g1,g3,g4,List.length_map])
  · have c0':=of_eq_true c0
    rw [if_pos c0'] at h0
    have hw:=varsX_ok c0'
    have hE1:varsE l=if dupA (varsX l) (varsX l) 0=true then 12 else if 16<sumW (varsX l) then 7 else 0:=by unfold varsE;rw [if_neg (by simpa using c0')]
    cases hd:dupA (varsX l) (varsX l) 0 with
    | true=>
      have hE:varsE l=12:=by rw [hE1,hd,if_pos rfl]
      have hR:varsR l=[]:=by unfold varsR;rw [hE,if_neg (by decide)]
      rw [hd,if_pos rfl] at ha
      rw [hE,hR]
      (rw [r_r11_Vars (lbY rfl),F_r11_Vars];simp (disch:=omega) only [eqZ,↓gc_len,seval,-List.reduceReplicate,reduceCtorEq,allP,k0_r11_Vars,h0,B0_r11_Vars,Int.lt_irrefl,List.length_map,q_r11_all,ha])
    | false=>
      rw [hd,if_neg (by simp)] at ha
      have hB:=r_BitsX (varsX l) hw (by omega)
      obtain ⟨hb1,hb2⟩:=bitsV_sum hw
      rcases Classical.propComplete (16<sumW (varsX l)) with c3 | c3
      · have hE:varsE l=7:=by rw [hE1,hd,if_neg (by simp),if_pos (of_eq_true c3)]
        have hR:varsR l=[]:=by unfold varsR;rw [hE,if_neg (by decide)]
        have c4:(bitsV (varsX l) > 16)=True:=by simp only [eq_iff_iff,iff_true];exact hb1.2 (of_eq_true c3)
        rw [hE,hR]
        generalize varsX l=K at *
        (rw [r_r11_Vars (lbY rfl),F_r11_Vars];simp (disch:=omega) only [eqZ,↓gc_len,seval,-List.reduceReplicate,reduceCtorEq,allP,k0_r11_Vars,h0,B0_r11_Vars,Int.lt_irrefl,List.length_map,q_r11_all,ha,q_r08_Bits,hB,c4])
      · have hE:varsE l=0:=by rw [hE1,hd,if_neg (by simp),if_neg (of_eq_false c3)]
        have hR:varsR l=varsX l:=by unfold varsR;rw [hE,if_pos rfl]
        have c4:(bitsV (varsX l) > 16)=False:=by simp only [eq_iff_iff,iff_false];exact fun h=>of_eq_false c3 (hb1.1 h)
        rw [hE,hR]
        generalize varsX l=K at *
        (rw [r_r11_Vars (lbY rfl),F_r11_Vars];simp (disch:=omega) only [eqZ,↓gc_len,seval,-List.reduceReplicate,reduceCtorEq,allP,k0_r11_Vars,h0,B0_r11_Vars,Int.lt_irrefl,List.length_map,q_r11_all,ha,q_r08_Bits,hB,c4])
structure Good (l:List Term):Prop where
  chk:chkL l=0
  clash:¬ Clash (allVs l)
  bits:sumW (varsX l)≤16
theorem good_of {l:List Term} (h:varsE l=0):Good l:=by
  unfold varsE at h
  split at h
  · rename_i c;exact absurd h c
  · rename_i c
    have c':chkL l=0:=by simpa using c
    split at h
    · cases h
    · rename_i d
      split at h
      · cases h
      · rename_i b
        exact ⟨c',fun hc=>d ((dup_all l).2 hc),by omega⟩
theorem good_err {l:List Term} (h:Good l):varsE l=0:=by
  unfold varsE
  rw [if_neg (by simpa using h.chk),if_neg (fun d=>h.clash ((dup_all l).1 d)),if_neg (by have:=h.bits;omega)]
theorem Good.ok {l:List Term} (h:Good l):∀ v∈varsX l,okV2 v:=varsX_ok h.chk
theorem Good.sorted {l:List Term} (h:Good l):Sorted (varsX l):=noclash_sorted (varsX_strict l) (fun c=>h.clash ((clash_congr fun x=>varsX_all).1 c))
theorem sumW_len:∀ {l:List V2},(∀ v∈l,okV2 v)→(l.length:Int)≤sumW l∧∀ v∈l,v.w≤sumW l
  | [],_=>by simp [sumW]
  | a :: l,h=>by
    have h1:=h a (by simp)
    unfold okV2 at h1
    obtain ⟨h2,h3⟩:=sumW_len (l:=l) (fun v hv=>h v (by simp [hv]))
    unfold sumW
    refine ⟨by simp only [List.length_cons];omega,fun v hv=>?_⟩
    rcases List.mem_cons.1 hv with rfl | hv
    · omega
    · have:=h3 v hv;omega
theorem Good.len {l:List Term} (h:Good l):(varsX l).length≤16:=by
  have:=(sumW_len h.ok).1
  have:=h.bits
  omega
theorem Good.w16 {l:List Term} (h:Good l):∀ v∈varsX l,1≤v.w∧v.w≤16:=fun v hv=>by
  have h1:=h.ok v hv
  have h2:=(sumW_len h.ok).2 v hv
  have:=h.bits
  unfold okV2 at h1
  omega
def bitsX (l:List Term):Nat:=(sumW (varsX l)).toNat
theorem Good.bits16 {l:List Term} (h:Good l):bitsX l≤16:=by unfold bitsX;have:=h.bits;omega
theorem Good.sum {l:List Term} (h:Good l):sumW (varsX l)=(bitsX l:Int):=by
  unfold bitsX
  have:=(sumW_len h.ok).1
  omega
theorem Good.bitsV {l:List Term} (h:Good l):bitsV (varsX l)=(bitsX l:Int):=by rw [← h.sum];exact (bitsV_sum h.ok).2 h.bits
theorem sorted_dup:∀ (r p:List V2),Sorted (p++r)→dupQ sameN p r=false
  | [],p,_=>rfl
  | u :: r,p,h=>by
    unfold dupQ
    have h1:Sorted ((p++[u])++r):=by simpa using h
    rw [sorted_dup r (p++[u]) h1,Bool.or_false,List.any_eq_false]
    intro a ha
    unfold sameN
    have h2:=(List.pairwise_append.1 h).2.2 a ha u (by simp)
    have h3:slt a.name u.name=true:=h2
    simp only [decide_eq_true_eq]
    intro e
    rw [e,slt_irrefl] at h3
    cases h3
theorem Good.bound {l:List Term} (h:Good l) {t:Term} (ht:t∈l):boundV t (varsX l)=true:=by
  unfold boundV
  rw [sorted_dup _ [] (by simpa using h.sorted)]
  have key:(varsT t).any (fun u=>!((varsX l).any fun a=>eqV a u))=false:=by
    rw [List.any_eq_false]
    intro u hu
    have hm:u∈varsX l:=varsX_mem.2 ⟨t,ht,hu⟩
    have h2:((varsX l).any fun a=>eqV a u)=true:=List.any_eq_true.2 ⟨u,hm,by simp [eqV]⟩
    rw [h2]
    simp
  rw [key]
  rfl
theorem Good.tab {l:List Term} (h:Good l) {t:Term} (ht:t∈l):tabE t (varsX l)=0:=by
  unfold tabE
  rw [if_neg (by simpa using chkL_zero h.chk t ht),if_neg (by rw [h.bound ht];simp)]
  have hb:(varsX l).any badW=false:=by
    rw [List.any_eq_false]
    intro v hv
    have:=h.ok v hv
    unfold okV2 at this
    simp only [badW,Bool.or_eq_true,decide_eq_true_eq]
    omega
  rw [hb,if_neg (by simp),if_neg (by rw [h.bitsV];have:=h.bits16;omega)]
def lrw (x:List Nat):List PV:=[.lst (x.map urow)]
abbrev tvX (L:List Term) (t:Term):List Nat:=tabV t (varsX L) (bitsX L)
theorem n_TableX {L:List Term} (hg:Good L) {t:Term} (hm:t∈L) (ht:TOk t) (hc:t.count≤1000000):R P f_eval_Table [.agg t.row,.lst ((varsX L).map vrow)]=some (.tup [.lst ((tvX L t).map urow),.int .i64 0]):=by
  have h:=n_Table t ht hc (varsX L) (by have:=hg.len;omega) (bitsX L) (fun _=>⟨hg.bitsV,hg.bits16⟩)
  unfold tableP at h
  rw [if_pos (hg.tab hm)] at h
  exact h
theorem bsl_l {r:List (List PV)}:bsliceV σ 1 1 (fillP (List.replicate 1 [.nils]).flatten [(0,1,.p (.lst r))])=some (.sl σ.length 1,σ++[.pv 1 [[.lst r]] false]):=rfl
theorem src_11l {o:Obj} {a:List PV} {fr:Bool}:srcOf [o,.pv 1 [a] fr] 1 (.sl 1 1)=some (.inl [a]):=src_sl rfl rfl (.inl rfl)
abbrev e_tbX (vs:List V2) (l:List Term) (s:List (List Nat)) (i:Int):List (Nat×AV):=[(0,.p (.lst (vs.map vrow))),(5,.sl 0 s.length),(10,.p (.lst (l.map Term.row))),(11,.p (.int .i64 l.length)),(12,.p (.int .i64 i))]
abbrev sTb (s:List (List Nat)):Store:=[.pv (esOf 1 s) (s.map lrw) false]
set_option maxHeartbeats 8000000 in
theorem s_tables (L:List Term) (hg:Good L) (hT:∀ t∈L,TOk t∧t.count≤1000000) (l:List Term) (hl:∀ t∈l,t∈L) (hn:l.length≤100):R P f_exhaust_tables [.lst ((varsX L).map vrow),.lst (l.map Term.row)]=some (.lst ((l.map (tvX L)).map lrw)):=by
  obtain ⟨_,h⟩:=loop_run (P:=P) (nt:=28) (lv:=[0,5,10,11,12]) (b:=B0_exhaust_tables) (rd:=none) (as:=l) (fun i (s:List (List Nat))=>e_tbX (varsX L) l s i) sTb (fun _ s t=>s++[tvX L t]) (fun i s=>s.length=i)
    (fun i t s hv hi hs=>by
      have hlt:((i:Int)<l.length)=True:=by simpa using hi
      have hx:=fun σ=>v_iadr (k:=.i64) (es:=5) (σ:=σ) (map_get (f:=Term.row) hv) t.row_len
      have hm:=hl t (List.mem_of_getElem? hv)
      have hTb:=n_TableX hg hm (hT t hm).1 (hT t hm).2
      have hap:=v_append (σ:=sTb s++[.pv 1 [[.lst ((tvX L t).map urow)]] false]) (b:=0) (n:=s.length) (e:=esOf 1 s) (es:=1) (bytes:=24) (rows:=s.map lrw) (new:=[[.lst ((tvX L t).map urow)]]) rfl (by simp) (esOf_or _ _ _) (by simp only [List.length_cons,List.length_nil];omega)
      simp only [sTb,List.cons_append,List.nil_append] at hap
      refine ⟨by simp [hs],?_⟩
      simp only [B0_exhaust_tables]
      generalize tvX L t=V at *
      generalize varsX L=K at *
      simp (disch:=omega) only [eqZ,↓gc_len,seval,-List.reduceReplicate,reduceCtorEq,allP,hlt,hx,List.length_map,q_eval_Table,hTb,bsl_l,src_11l,hap,List.map_append,List.length_append,esOf_snoc,lrw,e_tbX,sTb]) (fun i s=>rfl) [] rfl _ (fold_snoc (tvX L) l 0 [])
  rw [List.nil_append] at h
  have h':loopAt P L0_exhaust_tables [(0,.p (.lst ((varsX L).map vrow))),(5,.sl 0 0),(10,.p (.lst (l.map Term.row))),(11,.p (.int .i64 l.length)),(12,.p (.int .i64 0))] [.pv 0 [] false] 28 none=_:=h
  have hP:∀ (k e:Nat) (s:List (List Nat)),purify [.pv e (s.map lrw) false] (k+1) (.sl 0 s.length)=some (.lst (s.map lrw)):=fun k e s=>by simp [purify]
  generalize l.map (tvX L)=S at *
  generalize varsX L=K at *
  (rw [r_exhaust_tables (lbY rfl),F_exhaust_tables];simp (disch:=omega) only [eqZ,↓gc_len,seval,-List.reduceReplicate,reduceCtorEq,allP,k0_exhaust_tables,h',B0_exhaust_tables,Int.lt_irrefl,List.length_map,hP,e_tbX,sTb])
end Go.AE.S
