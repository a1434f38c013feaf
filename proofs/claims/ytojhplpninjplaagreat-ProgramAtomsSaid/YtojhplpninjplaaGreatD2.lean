import Derived.Test.YtojhplpninjplaaGreatD1
import Derived.Test.YtojhplpninjplaaGreatD0
namespace Go.AE.S
open Go Go.AE
set_option linter.unusedSimpArgs false
set_option linter.unusedVariables false
variable {τ:Tm} {σ:Store} {rd:Option Nat}
def clashes (p:List M3):List M3→Bool
  | []=>false
  | m :: r=>p.any (clashM m) || clashes (p++[m]) r
theorem fold_ol (T:List M3):∀ (r:List M3) (i:Nat),T.drop i=r→foldE (S:=Unit) (T:=Unit) (fun i _ u=>if (T.take i).any (clashM u)=true then .inr () else .inl ()) i () r=if clashes (T.take i) r=true then .inr () else .inl ()
  | [],i,h=>rfl
  | a :: r,i,h=>by
    have hi:i<T.length:=by
      rcases Nat.lt_or_ge i T.length with h1 | h1
      · exact h1
      · rw [List.drop_of_length_le h1] at h;cases h
    have hg:T[i]? = some a:=by
      rw [← List.head?_drop,h];rfl
    have hr:T.drop (i+1)=r:=by rw [← List.tail_drop,h];rfl
    have ht:T.take (i+1)=T.take i++[a]:=by rw [List.take_add_one,hg];rfl
    unfold foldE clashes
    by_cases h1:(T.take i).any (clashM a)=true
    · simp only [h1,if_true,Bool.true_or]
    · have h':(T.take i).any (clashM a)=false:=by simpa using h1
      simp only [h',Bool.false_or,Bool.false_eq_true,if_false]
      rw [fold_ol T r (i+1) hr,ht]
set_option maxHeartbeats 16000000 in
theorem l1_rCheckAtoms (T:List M3) (hl:T.length≤1000000) :
    doneP (fun _:Unit=>True∧loopAt P L1_r25_CheckAtoms [(5,.p (.lst (T.map urow))),(6,.p (.int .i64 0))] [] 98 none=back P [5,6] B1_r25_CheckAtoms 0 (exec P B1_r25_CheckAtoms ⟨tm [(5,.p (.lst (T.map urow))),(6,.p (.int .i64 T.length))],[],98,none⟩)) (fun _:Unit=>∃ r,loopAt P L1_r25_CheckAtoms [(5,.p (.lst (T.map urow))),(6,.p (.int .i64 0))] [] 98 none=some r∧ret1 2 (.int .i64 12) [] r) (if clashes [] T=true then .inr () else .inl ()):=by
  have h:=loop_to (P:=P) (nt:=98) (rd:=none) (lv:=[5,6]) (b:=B1_r25_CheckAtoms) (as:=T) (fun i (_:Unit)=>[(5,.p (.lst (T.map urow))),(6,.p (.int .i64 (i:Int)))]) (fun _=>[]) (fun i _ u=>if (T.take i).any (clashM u)=true then .inr () else .inl ())
    (fun _=>ret1 2 (.int .i64 12) []) (fun _ _=>True)
    (fun i u s ha hi hs=>by
      refine ⟨fun _ _=>trivial,?_⟩
      have hlt:((i:Int)<T.length)=True:=by simpa using hi
      have h2:=l2_rCheckAtoms T i u ha hl
      cases hc:(T.take i).any (clashM u) with
      | true=>
        rw [hc] at h2
        obtain ⟨⟨e',τ',σ',nt',rd'⟩,k1,k2,k3,k4⟩:=h2
        simp only at k2 k3 k4
        subst k2
        simp only [if_true]
        simp only [B1_r25_CheckAtoms]
        simp (disch:=omega) only [eqZ,↓gc_len,seval,-List.reduceReplicate,reduceCtorEq,allP,hlt,List.length_map,k2_r25_CheckAtoms,k1,k3,k4,ret1]
      | false=>
        rw [hc] at h2
        obtain ⟨_,k1⟩:=h2
        simp only [Bool.false_eq_true,if_false]
        simp only [B1_r25_CheckAtoms]
        simp (disch:=omega) only [eqZ,↓gc_len,seval,-List.reduceReplicate,reduceCtorEq,allP,hlt,List.length_map,k2_r25_CheckAtoms,k1,B2_r25_CheckAtoms,Int.lt_irrefl,ret1]) (fun i s=>rfl) () trivial
  have e:=fold_ol T T 0 rfl
  rw [List.take_zero] at e
  rw [e] at h
  exact h
def bindR (l:List M3):Int:=if clashes [] l=true then 12 else if 16<((insM 0 l).length:Int)+(insM 1 l).length then 7 else 0
def atomsR (l:List Atom):Int:=if (l.length:Int)<1∨4<(l.length:Int) then 7 else if ¬ chkA l=0 then chkA l else bindR (l.flatMap mentA)
theorem insM_len (r:Int) (T:List M3):(insM r T).length≤T.length:=by
  have:=insUs_len (l:=T.map (asU r)) (s:=[])
  simpa [insM] using this
set_option maxHeartbeats 16000000 in
theorem s_r25_CheckAtoms (l:List Atom) (hl:l.length≤1000000) (hm:(l.flatMap mentA).length≤1000000) (ht:∀ a∈l,TOk a.pat∧a.pat.count≤1000000):R P f_r25_CheckAtoms [.lst (l.map Atom.row)]=some (.int .i64 (atomsR l)):=by
  unfold atomsR
  by_cases g1:(l.length:Int)<1
  · rw [if_pos (.inl g1)]
    (rw [r_r25_CheckAtoms (lbY rfl),F_r25_CheckAtoms];simp (disch:=omega) only [eqZ,↓gc_len,seval,-List.reduceReplicate,reduceCtorEq,allP,List.length_map,g1])
  by_cases g2:4<(l.length:Int)
  · rw [if_pos (.inr g2)]
    (rw [r_r25_CheckAtoms (lbY rfl),F_r25_CheckAtoms];simp (disch:=omega) only [eqZ,↓gc_len,seval,-List.reduceReplicate,reduceCtorEq,allP,List.length_map,g1,g2])
  rw [if_neg (by omega)]
  have h0:=l0_rCheckAtoms l hl ht
  rcases Classical.propComplete (chkA l=0) with c0 | c0
  rotate_left
  · have c0':=of_eq_false c0
    rw [if_neg c0'] at h0
    rw [if_pos c0']
    obtain ⟨⟨e',τ',σ',nt',rd'⟩,k1,k2,k3,k4⟩:=h0
    simp only at k2 k3 k4
    subst k2
    (rw [r_r25_CheckAtoms (lbY rfl),F_r25_CheckAtoms];simp (disch:=omega) only [eqZ,↓gc_len,seval,-List.reduceReplicate,reduceCtorEq,allP,List.length_map,g1,g2,k0_r25_CheckAtoms,k1,k3,k4])
  · have c0':=of_eq_true c0
    rw [if_pos c0'] at h0
    obtain ⟨_,h0'⟩:=h0
    rw [if_neg (not_not_intro c0')]
    have hs:=s_r25_all l hl hm ht
    have hL:=l1_rCheckAtoms (l.flatMap mentA) hm
    generalize l.flatMap mentA=T at *
    have h1:=s_r25_names T 0 hm
    have h2:=s_r25_names T 1 hm
    have e1:(24:Int)+0=24:=rfl
    have e2:(24:Int)+1=25:=rfl
    rw [e1] at h1
    rw [e2] at h2
    have n1:=insM_len 0 T
    have n2:=insM_len 1 T
    have hw:IntKind.i64.wrap (((insM 0 T).length:Int)+(insM 1 T).length)=((insM 0 T).length:Int)+(insM 1 T).length:=IntWalk.i64_in _ (by omega)
    unfold bindR
    cases hf:clashes [] T with
    | true=>
      rw [hf] at hL
      obtain ⟨⟨e',τ',σ',nt',rd'⟩,k1,k2,k3,k4⟩:=hL
      simp only at k2 k3 k4
      subst k2
      (rw [r_r25_CheckAtoms (lbY rfl),F_r25_CheckAtoms];simp (disch:=omega) only [eqZ,↓gc_len,seval,-List.reduceReplicate,reduceCtorEq,allP,List.length_map,g1,g2,k0_r25_CheckAtoms,h0',B0_r25_CheckAtoms,Int.lt_irrefl,q_r25_all,hs,k1_r25_CheckAtoms,k1,k3,k4])
    | false=>
      rw [hf] at hL
      obtain ⟨_,hL'⟩:=hL
      by_cases g3:(16:Int)<((insM 0 T).length:Int)+(insM 1 T).length
      · simp only [g3,if_true,Bool.false_eq_true,if_false]
        (rw [r_r25_CheckAtoms (lbY rfl),F_r25_CheckAtoms];simp (disch:=omega) only [eqZ,↓gc_len,seval,-List.reduceReplicate,reduceCtorEq,allP,List.length_map,g1,g2,k0_r25_CheckAtoms,h0',B0_r25_CheckAtoms,Int.lt_irrefl,q_r25_all,hs,k1_r25_CheckAtoms,hL',B1_r25_CheckAtoms,q_r25_names,h1,h2,hw,g3])
      · simp only [g3,Bool.false_eq_true,if_false]
        (rw [r_r25_CheckAtoms (lbY rfl),F_r25_CheckAtoms];simp (disch:=omega) only [eqZ,↓gc_len,seval,-List.reduceReplicate,reduceCtorEq,allP,List.length_map,g1,g2,k0_r25_CheckAtoms,h0',B0_r25_CheckAtoms,Int.lt_irrefl,q_r25_all,hs,k1_r25_CheckAtoms,hL',B1_r25_CheckAtoms,q_r25_names,h1,h2,hw,g3])
theorem names_eq (r:Int) (T:List M3):namesM r T=insM r T:=by
  refine sort_uniq (isort_sort (addsM_dist r T)) (insUs_sorted (by simp [Sorted])) fun x=>?_
  rw [namesM,isort_mem]
  exact both_mem (by simp [Sorted]) (fun x=>Iff.rfl) x
theorem lkM_st (m:M3) (n:ByteArray):∀ s,lkM (stM m s) n=if n=m.name then some m else lkM s n
  | []=>by simp [stM,lkM]
  | e :: s=>by
    unfold stM
    by_cases h:m.name=e.1
    · rw [if_pos h]
      simp only [lkM]
      by_cases h2:n=m.name
      · rw [if_pos h2,if_pos h2]
      · rw [if_neg h2,if_neg h2,if_neg (fun e'=>h2 (e'.trans h.symm))]
    · rw [if_neg h]
      simp only [lkM]
      by_cases h2:n=e.1
      · rw [if_pos h2,if_neg (fun e'=>h (e'.symm.trans h2)),if_pos h2]
      · rw [if_neg h2,if_neg h2]
        exact lkM_st m n s
theorem lenM_st (m:M3):∀ s,(stM m s).length=if lkM s m.name=none then s.length+1 else s.length
  | []=>by simp [stM,lkM]
  | e :: s=>by
    unfold stM
    by_cases h:m.name=e.1
    · rw [if_pos h]
      simp [lkM,h]
    · rw [if_neg h]
      simp only [lkM,if_neg h,List.length_cons,lenM_st m s]
      split<;>rfl
theorem mem_adds (r:Int) (n:ByteArray):∀ (p:List M3) (s:List V2),(∃ v∈addsM r p s,v.name=n)↔(∃ v∈s,v.name=n)∨∃ o∈p,o.role=r∧o.name=n
  | [],s=>by simp [addsM]
  | m :: p,s=>by
    have e:addsM r (m :: p) s=addsM r p (addU s (asU r m)):=rfl
    rw [e,mem_adds r n p,addU_asU]
    have hany:s.any (isM m)=true↔∃ v∈s,v.name=m.name:=by simp [isM]
    by_cases h1:m.role=r
    · cases h2:s.any (isM m) with
      | true=>
        rw [if_neg (by simp)]
        obtain ⟨v,hv,hn⟩:=hany.1 h2
        constructor
        · rintro (h | ⟨o,ho,h⟩)
          · exact .inl h
          · exact .inr ⟨o,by simp [ho],h⟩
        · rintro (h | ⟨o,ho,h3,h4⟩)
          · exact .inl h
          · rcases List.mem_cons.1 ho with rfl | ho
            · exact .inl ⟨v,hv,hn.trans h4⟩
            · exact .inr ⟨o,ho,h3,h4⟩
      | false=>
        rw [if_pos ⟨h1,rfl⟩]
        constructor
        · rintro (⟨v,hv,h⟩ | ⟨o,ho,h⟩)
          · rcases List.mem_append.1 hv with hv | hv
            · exact .inl ⟨v,hv,h⟩
            · rw [List.mem_singleton] at hv
              subst hv
              exact .inr ⟨m,by simp,h1,h⟩
          · exact .inr ⟨o,by simp [ho],h⟩
        · rintro (⟨v,hv,h⟩ | ⟨o,ho,h3,h4⟩)
          · exact .inl ⟨v,by simp [hv],h⟩
          · rcases List.mem_cons.1 ho with rfl | ho
            · exact .inl ⟨⟨o.name,o.w⟩,by simp,h4⟩
            · exact .inr ⟨o,ho,h3,h4⟩
    · rw [if_neg (fun h=>h1 h.1)]
      constructor
      · rintro (h | ⟨o,ho,h⟩)
        · exact .inl h
        · exact .inr ⟨o,by simp [ho],h⟩
      · rintro (h | ⟨o,ho,h3,h4⟩)
        · exact .inl h
        · rcases List.mem_cons.1 ho with rfl | ho
          · exact absurd h3 h1
          · exact .inr ⟨o,ho,h3,h4⟩
theorem adds_snoc (r:Int) (p:List M3) (m:M3) (s:List V2):addsM r (p++[m]) s=addU (addsM r p s) (asU r m):=by
  simp [addsM,List.foldl_append]
structure InvM (p:List M3) (s:List (ByteArray×M3)):Prop where
  i1:∀ o∈p,lkM s o.name=some o
  i2:∀ n o,lkM s n=some o→o∈p∧o.name=n
  i3:s.length=(addsM 0 p []).length+(addsM 1 p []).length
theorem adds_len (p:List M3) (m:M3) (hr:m.role=0∨m.role=1):(addsM 0 (p++[m]) []).length+(addsM 1 (p++[m]) []).length=(addsM 0 p []).length+(addsM 1 p []).length+if ∃ o∈p,o.role=m.role∧o.name=m.name then 0 else 1:=by
  have key:∀ r,(addsM r (p++[m]) []).length=(addsM r p []).length+if m.role=r∧¬ ∃ o∈p,o.role=r∧o.name=m.name then 1 else 0:=by
    intro r
    rw [adds_snoc,addU_asU]
    have hm:=mem_adds r m.name p []
    have hany:(addsM r p []).any (isM m)=true↔∃ v∈addsM r p [],v.name=m.name:=by simp [isM]
    simp only [List.not_mem_nil,false_and,exists_false,false_or] at hm
    rw [hm] at hany
    by_cases h1:m.role=r
    · by_cases h2:∃ o∈p,o.role=r∧o.name=m.name
      · rw [if_neg (by rw [hany.2 h2];simp),if_neg (fun h=>h.2 h2)]
        rfl
      · have h3:(addsM r p []).any (isM m)=false:=by
          cases hc:(addsM r p []).any (isM m) with
          | false=>rfl
          | true=>exact absurd (hany.1 hc) h2
        rw [if_pos ⟨h1,h3⟩,if_pos ⟨h1,h2⟩,List.length_append]
        rfl
    · rw [if_neg (fun h=>h1 h.1),if_neg (fun h=>h1 h.1)]
      rfl
  rw [key 0,key 1]
  rcases hr with h | h
  · rw [h]
    by_cases h2:∃ o∈p,o.role=0∧o.name=m.name
    · rw [if_neg (fun h=>h.2 h2),if_neg (fun h=>by cases h.1),if_pos h2]
      omega
    · rw [if_pos ⟨rfl,h2⟩,if_neg (fun h=>by cases h.1),if_neg h2]
      omega
  · rw [h]
    by_cases h2:∃ o∈p,o.role=1∧o.name=m.name
    · rw [if_neg (fun h=>by cases h.1),if_neg (fun h=>h.2 h2),if_pos h2]
      omega
    · rw [if_neg (fun h=>by cases h.1),if_pos ⟨rfl,h2⟩,if_neg h2]
      omega
theorem fold_bind:∀ (r:List M3) (i:Nat) (p:List M3) (s:List (ByteArray×M3)),InvM p s→(∀ m∈r,m.role=0∨m.role=1) →
    (clashes p r=true∧foldE (fun _ s m=>bindM s m) i s r=.inr ())∨(clashes p r=false∧∃ s',foldE (fun _ s m=>bindM s m) i s r=.inl s'∧InvM (p++r) s')
  | [],i,p,s,hI,_=>.inr ⟨rfl,s,rfl,by rw [List.append_nil];exact hI⟩
  | m :: r,i,p,s,hI,hr=>by
    have hclash:p.any (clashM m)=true↔∃ v∈p,v.name=m.name∧¬ m=v:=by simp [clashM]
    have next:p.any (clashM m)=false→bindM s m=.inl (stM m s)→InvM (p++[m]) (stM m s) →
      (clashes p (m :: r)=true∧foldE (fun _ s m=>bindM s m) i s (m :: r)=.inr ())∨(clashes p (m :: r)=false∧∃ s',foldE (fun _ s m=>bindM s m) i s (m :: r)=.inl s'∧InvM (p++m :: r) s'):=by
      intro h1 h2 h3
      have h:=fold_bind r (i+1) (p++[m]) (stM m s) h3 (fun x hx=>hr x (by simp [hx]))
      unfold clashes foldE
      rw [h1,h2]
      simp only [Bool.false_or]
      rw [List.append_assoc] at h
      exact h
    cases hk:lkM s m.name with
    | none=>
      have hno:∀ o∈p,¬ o.name=m.name:=fun o ho e=>by
        have:=hI.i1 o ho
        rw [e,hk] at this
        cases this
      refine next ?_ (by unfold bindM;rw [hk]) ⟨fun o ho=>?_,fun n o h=>?_,?_⟩
      · cases hc:p.any (clashM m) with
        | false=>rfl
        | true=>obtain ⟨v,hv,hn,_⟩:=hclash.1 hc;exact absurd hn (hno v hv)
      · rw [lkM_st]
        rcases List.mem_append.1 ho with ho | ho
        · rw [if_neg (hno o ho)];exact hI.i1 o ho
        · rw [List.mem_singleton] at ho;subst ho;rw [if_pos rfl]
      · rw [lkM_st] at h
        split at h
        · rename_i e
          cases h
          exact ⟨by simp,e.symm⟩
        · have:=hI.i2 n o h
          exact ⟨by simp [this.1],this.2⟩
      · rw [lenM_st,if_pos hk,adds_len p m (hr m (by simp)),hI.i3,if_neg]
        rintro ⟨o,ho,_,hn⟩
        exact hno o ho hn
    | some o=>
      obtain ⟨ho,hon⟩:=hI.i2 _ _ hk
      by_cases he:o=m
      · subst he
        refine next ?_ (by unfold bindM;rw [hk];simp) ⟨fun v hv=>?_,fun n v h=>?_,?_⟩
        · cases hc:p.any (clashM o) with
          | false=>rfl
          | true=>
            obtain ⟨v,hv,hn,hne⟩:=hclash.1 hc
            have:=hI.i1 v hv
            rw [hn,hk] at this
            exact absurd (Option.some.inj this) hne
        · rw [lkM_st]
          rcases List.mem_append.1 hv with hv | hv
          · split
            · rename_i e
              have:=hI.i1 v hv
              rw [e,hk] at this
              exact this
            · exact hI.i1 v hv
          · rw [List.mem_singleton] at hv;subst hv;rw [if_pos rfl]
        · rw [lkM_st] at h
          split at h
          · rename_i e
            cases h
            exact ⟨by simp,e.symm⟩
          · have:=hI.i2 n v h
            exact ⟨by simp [this.1],this.2⟩
        · rw [lenM_st,if_neg (by rw [hk];simp),adds_len p o (hr o (by simp)),hI.i3,if_pos ⟨o,ho,rfl,rfl⟩]
          rfl
      · left
        refine ⟨?_,?_⟩
        · unfold clashes
          rw [hclash.2 ⟨o,ho,hon,fun e=>he e.symm⟩]
          rfl
        · unfold foldE
          have:bindM s m=.inr ():=by unfold bindM;rw [hk];simp only;rw [if_neg he]
          rw [this]
theorem bind_eq (T:List M3) (hr:∀ m∈T,m.role=0∨m.role=1):bindE T=bindR T:=by
  have h:=fold_bind T 0 [] [] ⟨by simp,by simp [lkM],by simp [addsM]⟩ hr
  unfold bindE bindR
  rcases h with ⟨h1,h2⟩ | ⟨h1,s,h2,h3⟩
  · rw [h1,h2];simp
  · rw [h1,h2]
    simp only [Bool.false_eq_true,if_false]
    have h4:=h3.i3
    rw [List.nil_append] at h4
    have l0:(insM 0 T).length=(addsM 0 T []).length:=by rw [← names_eq,namesM,isort_len]
    have l1:(insM 1 T).length=(addsM 1 T []).length:=by rw [← names_eq,namesM,isort_len]
    rw [l0,l1,h4]
    simp only [Int.natCast_add]
theorem atoms_eq (l:List Atom):atomsE l=atomsR l:=by
  unfold atomsE atomsR
  rw [bind_eq _ ments_role]
end Go.AE.S
