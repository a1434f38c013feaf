import Derived.Test.YtiinicliedpmjaaGreatC1
import Derived.Test.YtiinicliedpmjaaGreatB2
namespace Go.AE.S
open Go Go.AE
set_option linter.unusedSimpArgs false
set_option linter.unusedVariables false
variable {τ:Tm} {σ:Store} {rd:Option Nat}
theorem s_Vars11 (v:V2) (u:Term):R P f_term_Vars_1_1 [.agg (vrow v),.ptr u.row 0]=some (.bool (decide (v.name=u.name))):=by
  (rw [r_term_Vars_1_1 (lbY rfl),F_term_Vars_1_1];simp (disch:=omega) only [eqZ,↓gc_len,seval,-List.reduceReplicate,reduceCtorEq,allP,vrow])
theorem fold_find {α:Type} (q:α→Bool):∀ (as:List α) (i:Nat),(∃ n:Nat,foldE (S:=Unit) (T:=Nat) (fun i _ a=>if q a=true then .inr i else .inl ()) i () as=.inr n∧as.any q=true)∨(foldE (S:=Unit) (T:=Nat) (fun i _ a=>if q a=true then .inr i else .inl ()) i () as=.inl ()∧as.any q=false)
  | [],i=>.inr ⟨rfl,rfl⟩
  | a :: as,i=>by
    by_cases h:q a=true
    · exact .inl ⟨i,by simp only [foldE,h,if_true],by simp [h]⟩
    · rcases fold_find q as (i+1) with ⟨n,h1,h2⟩ | ⟨h1,h2⟩
      · exact .inl ⟨n,by simp only [foldE,h];exact h1,by simp [h2]⟩
      · exact .inr ⟨by simp only [foldE,h];exact h1,by simp [h2,h]⟩
abbrev e_ixv (l:List V2) (u:Term) (i:Int):List (Nat×AV):=[(0,.p (.lst (l.map vrow))),(1,.p (.fn f_term_Vars_1_1 [.ptr u.row 0])),(7,.p (.int .i64 l.length)),(8,.p (.int .i64 i))]
def isV (u:Term) (v:V2):Bool:=decide (v.name=u.name)
theorem s_ContainsV (l:List V2) (u:Term) (hl:l.length≤1000000):R P f_slices_ContainsFunc_api_Var_api_Var [.lst (l.map vrow),.fn f_term_Vars_1_1 [.ptr u.row 0]]=some (.bool (l.any (isV u))):=by
  have h:=loop_to (P:=P) (nt:=19) (lv:=[0,1,7,8]) (b:=B0_slices_IndexFunc_api_Var_api_Var) (rd:=none) (as:=l) (fun i (_:Unit)=>e_ixv l u i) (fun _=>[]) (fun i _ v=>if isV u v=true then .inr i else .inl ()) (fun (n:Nat)=>ret1 4 (.int .i64 n) []) (fun _ _=>True)
    (fun i v s hv hi hs=>by
      refine ⟨fun _ _=>trivial,?_⟩
      have hlt:((i:Int)<l.length)=True:=by simpa using hi
      have hr:=s_Vars11 v u
      have hx:=fun σ=>v_iadr (k:=.i64) (es:=2) (σ:=σ) (map_get (f:=vrow) hv) (by simp [vrow])
      unfold isV
      rcases Classical.propComplete (v.name=u.name) with h1 | h1
      · rw [decide_eq_true (of_eq_true h1)] at hr
        simp only [vrow] at hr
        simp only [B0_slices_IndexFunc_api_Var_api_Var,h1]
        simp (disch:=omega) only [eqZ,↓gc_len,seval,-List.reduceReplicate,reduceCtorEq,allP,hlt,hx,vrow,q_term_Vars_1_1,hr,e_ixv,ret1]
      · rw [decide_eq_false (of_eq_false h1)] at hr
        simp only [vrow] at hr
        simp only [B0_slices_IndexFunc_api_Var_api_Var,h1]
        simp (disch:=omega) only [eqZ,↓gc_len,seval,-List.reduceReplicate,reduceCtorEq,allP,hlt,hx,vrow,q_term_Vars_1_1,hr,e_ixv,ret1]) (fun i s=>rfl) () trivial
  rcases fold_find (isV u) l 0 with ⟨n,h1,h2⟩ | ⟨h1,h2⟩
  · rw [h1] at h
    obtain ⟨⟨e',τ',σ',nt',rd'⟩,g1,g2,g3,g4⟩:=h
    simp only at g2 g3 g4
    subst g2;subst g4
    have h':loopAt P L0_slices_IndexFunc_api_Var_api_Var (e_ixv l u 0) [] 19 none=some (.ret,⟨τ',[],nt',rd'⟩):=g1
    simp only [e_ixv] at h'
    have hi:R P f_slices_IndexFunc_api_Var_api_Var [.lst (l.map vrow),.fn f_term_Vars_1_1 [.ptr u.row 0]]=some (.int .i64 n):=by
      (rw [r_slices_IndexFunc_api_Var_api_Var (lbY rfl),F_slices_IndexFunc_api_Var_api_Var];simp (disch:=omega) only [eqZ,↓gc_len,seval,-List.reduceReplicate,reduceCtorEq,allP,List.length_map,k0_slices_IndexFunc_api_Var_api_Var,h',g3])
    have hn:((n:Int) ≥ 0)=True:=by simp
    rw [h2]
    (rw [r_slices_ContainsFunc_api_Var_api_Var (lbY rfl),F_slices_ContainsFunc_api_Var_api_Var];simp (disch:=omega) only [eqZ,↓gc_len,seval,-List.reduceReplicate,reduceCtorEq,allP,q_slices_IndexFunc_api_Var_api_Var,hi,hn])
  · rw [h1] at h
    obtain ⟨_,h⟩:=h
    have h':loopAt P L0_slices_IndexFunc_api_Var_api_Var (e_ixv l u 0) [] 19 none=_:=h
    simp only [e_ixv] at h'
    have hi:R P f_slices_IndexFunc_api_Var_api_Var [.lst (l.map vrow),.fn f_term_Vars_1_1 [.ptr u.row 0]]=some (.int .i64 (-1)):=by
      (rw [r_slices_IndexFunc_api_Var_api_Var (lbY rfl),F_slices_IndexFunc_api_Var_api_Var];simp (disch:=omega) only [eqZ,↓gc_len,seval,-List.reduceReplicate,reduceCtorEq,allP,List.length_map,k0_slices_IndexFunc_api_Var_api_Var,h',B0_slices_IndexFunc_api_Var_api_Var,Int.lt_irrefl])
    rw [h2]
    (rw [r_slices_ContainsFunc_api_Var_api_Var (lbY rfl),F_slices_ContainsFunc_api_Var_api_Var];simp (disch:=omega) only [eqZ,↓gc_len,seval,-List.reduceReplicate,reduceCtorEq,allP,q_slices_IndexFunc_api_Var_api_Var,hi])
def addU (s:List V2) (u:Term):List V2:=if u.op=1∧s.any (isV u)=false then s++[⟨u.name,u.w⟩] else s
theorem v_Vars1 (u:Term) (s:List V2) (hs:s.length≤1000000):callV P (.fn f_term_Vars_1 [.ptr 1 1 0 0]) (argT u) (sV s)=some (.p (.bool true),sV (addU s u)):=by
  have hr:=s_ContainsV s u hs
  have hap:=v_append (σ:=sV s++[.pv 2 [vrow ⟨u.name,u.w⟩] false]) (b:=0) (n:=s.length) (e:=esOf 2 s) (es:=2) (bytes:=24) (rows:=s.map vrow) (new:=[vrow ⟨u.name,u.w⟩]) rfl (by simp) (esOf_or _ _ _) (by simp only [List.length_cons,List.length_nil];omega)
  simp only [sV,vrow,List.cons_append,List.nil_append] at hap
  rw [callV_c,q_term_Vars_1]
  unfold addU
  simp only [argT,List.cons_append,List.nil_append]
  rcases Classical.propComplete (u.op=1) with h1 | h1
  rotate_left
  · rw [if_neg (fun h=>of_eq_false h1 h.1)]
    (rw [call_go (lbY rfl),F_term_Vars_1];simp (disch:=omega) only [eqZ,↓gc_len,seval,-List.reduceReplicate,reduceCtorEq,allP,h1,mkFn])
  cases hc:s.any (isV u) with
  | true=>
    rw [hc] at hr
    rw [if_neg (by simp)]
    (rw [call_go (lbY rfl),F_term_Vars_1];simp (disch:=omega) only [eqZ,↓gc_len,seval,-List.reduceReplicate,reduceCtorEq,allP,h1,mkFn,List.length_map,q_slices_ContainsFunc_api_Var_api_Var,hr,vrow])
  | false=>
    rw [hc] at hr
    rw [if_pos ⟨of_eq_true h1,rfl⟩]
    (rw [call_go (lbY rfl),F_term_Vars_1];simp (disch:=omega) only [eqZ,↓gc_len,seval,-List.reduceReplicate,reduceCtorEq,allP,h1,mkFn,List.length_map,q_slices_ContainsFunc_api_Var_api_Var,hr,vrow,hap,List.map_append,List.length_append,esOf_snoc])
    simp only [sV,esOf_snoc,List.map_append,List.map_cons,List.map_nil,vrow,List.length_append,List.length_cons,List.length_nil,Nat.zero_add]
def preF (g:AV) (s:Store) (a:Term):Store ⊕ Store:=match gounds P g (a.pre.map argT) s with
  | some (true,s')=>.inl s'
  | some (false,s')=>.inr s'
  | none=>.inr s
theorem fold_pre (g:AV):∀ (as:List Term) (i:Nat) (s:Store) (b:Bool) (s':Store),gounds P g ((Term.pres as).map argT) s=some (b,s')→foldE (fun _ s a=>preF g s a) i s as=if b=true then .inl s' else .inr s'
  | [],i,s,b,s',h=>by
    simp only [Term.pres,List.map_nil,gounds,Option.some.injEq,Prod.mk.injEq] at h
    obtain ⟨rfl,rfl⟩:=h
    rfl
  | a :: as,i,s,b,s',h=>by
    simp only [Term.pres,List.map_append,gounds_append] at h
    simp only [foldE,preF]
    cases h1:gounds P g (a.pre.map argT) s with
    | none=>rw [h1] at h;cases h
    | some x=>
      obtain ⟨c,s1⟩:=x
      rw [h1] at h
      cases c with
      | true=>exact fold_pre g as (i+1) s1 b s' h
      | false=>
        simp only [goundsThen,Option.some.injEq,Prod.mk.injEq] at h
        obtain ⟨rfl,rfl⟩:=h
        rfl
abbrev e_pre (g:AV) (t:Term) (i:Int):List (Nat×AV):=[(1,g),(12,.p (.lst (t.args.map Term.row))),(13,.p (.int .i64 t.args.length)),(14,.p (.int .i64 i))]
set_option maxHeartbeats 4000000 in
theorem c_preorder (g:AV) (t:Term):t.count≤1000000→∀ (σ σ':Store) (b:Bool),gounds P g (t.pre.map argT) σ=some (b,σ')→call P F_term_preorder [.p (.agg t.row),g] σ=some (.p (.bool b),σ'):=by
  induction t using Term.ind with
  | h t ih=>
  intro hc σ σ' b hr
  have hlen:=Term.counts_len t.args
  have hct:=Term.count_eq t
  have hl:=gounds_len _ _ _ _ hr
  rw [Term.pre_eq,List.map_cons] at hr
  obtain ⟨c,σ1,k1,k2,k3,k4⟩:=gounds_cons hr
  simp only [argT] at k1
  have gc1:∀ vs,gc σ.length vs σ1=σ1:=fun vs=>gc_same' (by omega)
  have gc3:∀ vs,gc σ.length vs σ'=σ':=fun vs=>gc_same' (by omega)
  cases c with
  | false=>
    obtain ⟨rfl,rfl⟩:=k4 rfl
    (rw [call_go (lbY rfl),F_term_preorder];simp (disch:=omega) only [eqZ,↓gc_len,seval,-List.reduceReplicate,reduceCtorEq,allP,k1,gc1])
  | true=>
    have h3:=k3 rfl
    have h:=loop_to (P:=P) (nt:=23) (lv:=[1,12,13,14]) (b:=B0_term_preorder) (rd:=none) (as:=t.args) (fun i (_:Store)=>e_pre g t i) (fun s=>s) (fun _ s a=>preF g s a) (fun s r=>ret1 4 (.bool false) s r) (fun i s=>∃ b s',gounds P g ((Term.pres (t.args.drop i)).map argT) s=some (b,s'))
      (fun i a s ha hi hs=>by
        obtain ⟨b2,s2,hs⟩:=hs
        have hm:=List.mem_of_getElem? ha
        have hac:=Term.counts_mem hm
        have hlt:((i:Int)<t.args.length)=True:=by simpa using hi
        have hd:t.args.drop i=a :: t.args.drop (i+1):=by rw [List.drop_eq_getElem_cons hi];rw [List.getElem?_eq_getElem hi] at ha;cases ha;rfl
        rw [hd] at hs
        simp only [Term.pres,List.map_append,gounds_append] at hs
        cases hx:gounds P g (a.pre.map argT) s with
        | none=>rw [hx] at hs;cases hs
        | some x=>
          obtain ⟨c,s1⟩:=x
          rw [hx] at hs
          have hv:=ih a hm (by omega) s s1 c hx
          have hl1:=gounds_len _ _ _ _ hx
          have gc2:∀ vs,gc s.length vs s1=s1:=fun vs=>gc_same' (by omega)
          cases c with
          | true=>
            refine ⟨fun s' he=>?_,?_⟩
            · simp only [preF,hx] at he
              cases he
              exact ⟨_,_,hs⟩
            · simp only [B0_term_preorder,preF,hx]
              simp (disch:=omega) only [eqZ,↓gc_len,seval,-List.reduceReplicate,reduceCtorEq,allP,hlt,v_iadr (map_get (f:=Term.row) ha) a.row_len,q_term_preorder,hv,gc2,e_pre]
          | false=>
            refine ⟨fun s' he=>?_,?_⟩
            · simp only [preF,hx] at he
              cases he
            · simp only [B0_term_preorder,preF,hx]
              simp (disch:=omega) only [eqZ,↓gc_len,seval,-List.reduceReplicate,reduceCtorEq,allP,hlt,v_iadr (map_get (f:=Term.row) ha) a.row_len,q_term_preorder,hv,gc2,ret1,e_pre]) (fun i s=>rfl) σ1 ⟨b,σ',h3⟩
    rw [fold_pre g t.args 0 σ1 b σ' h3] at h
    cases b with
    | true=>
      obtain ⟨_,h⟩:=h
      have h':loopAt P L0_term_preorder (e_pre g t 0) σ1 23 none=_:=h
      simp only [e_pre] at h'
      (rw [call_go (lbY rfl),F_term_preorder];simp (disch:=omega) only [eqZ,↓gc_len,seval,-List.reduceReplicate,reduceCtorEq,allP,k1,List.length_map,k0_term_preorder,h',B0_term_preorder,Int.lt_irrefl,gc3])
    | false=>
      obtain ⟨⟨e,τ',σ2,nt',rd'⟩,g1,g2,g3,g4⟩:=h
      simp only at g2 g3 g4
      subst g2;subst g4
      have h':loopAt P L0_term_preorder (e_pre g t 0) σ1 23 none=some (.ret,⟨τ',σ2,nt',rd'⟩):=g1
      simp only [e_pre] at h'
      (rw [call_go (lbY rfl),F_term_preorder];simp (disch:=omega) only [eqZ,↓gc_len,seval,-List.reduceReplicate,reduceCtorEq,allP,k1,List.length_map,k0_term_preorder,h',g3,gc3])
theorem fold_addU:∀ (l:List Term) (i:Nat) (s:List V2),foldE (T:=Empty) (fun _ s u=>.inl (addU s u)) i s l=.inl (l.foldl addU s):=fun l i s=>foldE_foldl addU l i s
theorem addU_len {s:List V2} {u:Term}:(addU s u).length≤s.length+1:=by
  unfold addU
  split<;>simp
theorem g_Vars (t:Term) (hc:t.count≤1000000):gounds P (.fn f_term_Vars_1 [.ptr 1 1 0 0]) (t.pre.map argT) (sV [])=some (true,sV (t.pre.foldl addU [])):=by
  have h:=gounds_fold (P:=P) (g:=.fn f_term_Vars_1 [.ptr 1 1 0 0]) (n:=2) (T:=Empty) argT sV (fun _ s u=>.inl (addU s u)) (fun t=>nomatch t) (fun i s=>s.length≤i) (fun s=>rfl) (fun t=>nomatch t) t.pre
    (fun i a s ha hs=>by
      have hi:=(List.getElem?_eq_some_iff.1 ha).1
      rw [Term.pre_len] at hi
      refine ⟨fun s' he=>?_,?_⟩
      · cases he
        have:=addU_len (s:=s) (u:=a)
        omega
      · exact v_Vars1 a s (by omega)) t.pre 0 [] rfl (Nat.le_refl _)
  rw [fold_addU] at h
  exact h
theorem insR_mem {α:Type} {lt:α→α→Bool} {x y:α}:∀ {l:List α},y∈insR lt x l↔y=x∨y∈l
  | []=>by simp [insR]
  | z :: r=>by
    unfold insR
    split
    · simp only [List.mem_cons,insR_mem (l:=r)]
      constructor
      · rintro (h | h | h)
        · exact .inr (.inl h)
        · exact .inl h
        · exact .inr (.inr h)
      · rintro (h | h | h)
        · exact .inr (.inl h)
        · exact .inl h
        · exact .inr (.inr h)
    · simp
theorem isort_mem {α:Type} {lt:α→α→Bool} {y:α}:∀ {l:List α},y∈isort lt l↔y∈l
  | []=>by simp [isort]
  | x :: r=>by simp only [isort,insR_mem,isort_mem (l:=r),List.mem_cons]
theorem isort_map {α β:Type} {lt:α→α→Bool} {lt':β→β→Bool} {f:α→β} (h:∀ a b,lt' (f a) (f b)=lt a b):∀ l:List α,isort lt' (l.map f)=(isort lt l).map f
  | []=>rfl
  | x :: r=>by
    have ins:∀ l:List α,insR lt' (f x) (l.map f)=(insR lt x l).map f:=by
      intro l
      induction l with
      | nil=>rfl
      | cons y l ih=>
        simp only [List.map_cons,insR,h]
        split<;>simp [ih]
    simp only [List.map_cons,isort,isort_map h r,ins]
def ltN (a b:V2):Bool:=slt a.name b.name
theorem ltV_row (a b:V2):ltV (vrow a) (vrow b)=ltN a b:=rfl
def DistN (l:List V2):Prop:=l.Pairwise fun a b=>a.name≠b.name
theorem aparts_of:∀ {l:List V2},DistN l→aparts ltV (l.map vrow)=true
  | [],_=>rfl
  | a :: l,h=>by
    have h:=List.pairwise_cons.1 h
    simp only [List.map_cons,aparts,aparts_of h.2,Bool.and_true,List.all_map,List.all_eq_true]
    intro b hb
    show (ltV (vrow a) (vrow b) || ltV (vrow b) (vrow a))=true
    rw [ltV_row,ltV_row]
    rcases slt_tri a.name b.name with h1 | h1 | h1
    · simp [ltN,h1]
    · exact absurd h1 (h.1 b hb)
    · simp [ltN,h1]
theorem all_okV (l:List V2):(l.map vrow).all okV=true:=by
  induction l with
  | nil=>rfl
  | cons a l ih=>simp [vrow,okV]
def SortN (l:List V2):Prop:=l.Pairwise fun a b=>ltN a b=true
theorem insR_sort {x:V2}:∀ {l:List V2},SortN l→(∀ y∈l,y.name≠x.name)→SortN (insR ltN x l)
  | [],_,_=>by simp [insR,SortN]
  | z :: r,hs,hn=>by
    have hs':=List.pairwise_cons.1 hs
    unfold insR
    split
    · rename_i hz
      refine List.pairwise_cons.2 ⟨fun y hy=>?_,insR_sort hs'.2 fun y hy=>hn y (by simp [hy])⟩
      rcases insR_mem.1 hy with rfl | hy
      · exact hz
      · exact hs'.1 y hy
    · rename_i hz
      have hx:ltN x z=true:=by
        rcases slt_tri x.name z.name with h1 | h1 | h1
        · exact h1
        · exact absurd h1.symm (hn z (by simp))
        · exact absurd h1 hz
      refine List.pairwise_cons.2 ⟨fun y hy=>?_,hs⟩
      rcases List.mem_cons.1 hy with rfl | hy
      · exact hx
      · exact slt_trans hx (hs'.1 y hy)
theorem isort_sort:∀ {l:List V2},DistN l→SortN (isort ltN l)
  | [],_=>by simp [isort,SortN]
  | x :: r,h=>by
    have h:=List.pairwise_cons.1 h
    exact insR_sort (isort_sort h.2) fun y hy=>fun e=>h.1 y (isort_mem.1 hy) e.symm
theorem sort_uniq:∀ {l m:List V2},SortN l→SortN m→(∀ x,x∈l↔x∈m)→l=m
  | [],[],_,_,_=>rfl
  | [],b :: m,_,_,h=>by have:=(h b).2 (by simp);simp at this
  | a :: l,[],_,_,h=>by have:=(h a).1 (by simp);simp at this
  | a :: l,b :: m,hl,hm,h=>by
    have hl':=List.pairwise_cons.1 hl
    have hm':=List.pairwise_cons.1 hm
    have hab:a=b:=by
      rcases List.mem_cons.1 ((h a).1 (by simp)) with e | e
      · exact e
      · rcases List.mem_cons.1 ((h b).2 (by simp)) with e' | e'
        · exact e'.symm
        · have h1:=hm'.1 a e
          have h2:=hl'.1 b e'
          unfold ltN at h1 h2
          rw [slt_asym h1] at h2
          cases h2
    subst hab
    rw [sort_uniq hl'.2 hm'.2 fun x=>⟨fun hx=>?_,fun hx=>?_⟩]
    · rcases List.mem_cons.1 ((h x).1 (by simp [hx])) with e | e
      · subst e
        exact absurd rfl (slt_ne (hl'.1 x hx))
      · exact e
    · rcases List.mem_cons.1 ((h x).2 (by simp [hx])) with e | e
      · subst e
        exact absurd rfl (slt_ne (hm'.1 x hx))
      · exact e
theorem addU_dist {s:List V2} {u:Term} (h:DistN s):DistN (addU s u):=by
  unfold addU
  split
  · rename_i hc
    refine List.pairwise_append.2 ⟨h,by simp,fun a ha b hb=>?_⟩
    have hb:b=⟨u.name,u.w⟩:=by simpa using hb
    subst hb
    intro e
    have:=List.any_eq_false.1 hc.2 a ha
    exact this (decide_eq_true e)
  · exact h
theorem addUs_dist:∀ {l:List Term} {s:List V2},DistN s→DistN (l.foldl addU s)
  | [],_,h=>h
  | u :: l,s,h=>addUs_dist (l:=l) (addU_dist h)
theorem addUs_len:∀ {l:List Term} {s:List V2},(l.foldl addU s).length≤s.length+l.length
  | [],s=>by simp
  | u :: l,s=>by
    have h1:=addUs_len (l:=l) (s:=addU s u)
    have h2:=addU_len (s:=s) (u:=u)
    simp only [List.foldl_cons,List.length_cons]
    omega
def varsT (t:Term):List V2:=isort ltN (t.pre.foldl addU [])
theorem c_Sort (l:List V2) (hd:DistN l) (hl:l.length≤1000000):callF P f_slices_SortFunc_api_Var_api_Var [.sl 0 l.length,.p (.fn f_term_Vars_2 [])] (sV l)=some (.p (.tup []),sV (isort ltN l)):=by
  rw [q_slices_SortFunc_api_Var_api_Var]
  have hlen:(isort ltN l).length=l.length:=by
    have:∀ l:List V2,(isort ltN l).length=l.length:=by
      intro l
      induction l with
      | nil=>rfl
      | cons a l ih=>
        have ins:∀ m:List V2,(insR ltN a m).length=m.length+1:=by
          intro m
          induction m with
          | nil=>rfl
          | cons b m ih=>simp only [insR];split<;>simp [ih]
        simp [isort,ins,ih]
    exact this l
  have he:esOf 2 (isort ltN l)=esOf 2 l:=by
    cases l with
    | nil=>rfl
    | cons a l=>
      cases hi:isort ltN (a :: l) with
      | nil=>rw [hi] at hlen;simp at hlen
      | cons b m=>rfl
  have hrow:l.map vrow=[]∨esOf 2 l=2:=by cases l with | nil=>exact .inl rfl | cons a l=>exact .inr rfl
  have key:primSort 2 f_term_Vars_2 okV ltV [.sl 0 l.length,.p (.fn f_term_Vars_2 [])] (sV l)=some (.p (.tup []),sV (isort ltN l)):=by
    simp only [primSort,sV,if_true,List.getElem?_cons_zero]
    rw [if_pos ⟨by simp,by omega,hrow,all_okV l,aparts_of hd⟩]
    simp only [List.set_cons_zero,isort_map ltV_row,he,hlen]
  unfold primSort2
  rw [key]
  rfl
set_option maxHeartbeats 4000000 in
theorem s_term_Vars (t:Term) (hc:t.count≤1000000):R P f_term_Vars [.agg t.row]=some (.lst ((varsT t).map vrow)):=by
  have hg:=g_Vars t hc
  have hlen:=addUs_len (l:=t.pre) (s:=[])
  rw [Term.pre_len,List.length_nil] at hlen
  have hs:=c_Sort (t.pre.foldl addU []) (addUs_dist (by simp [DistN])) (by omega)
  have hp:=c_preorder _ t hc _ _ _ hg
  have gc2:∀ (a b:Obj) vs,gc 2 vs [a,b]=[a,b]:=fun a b vs=>gc_same' (by simp)
  have hp':call P F_term_preorder [.p (.agg t.row),.fn f_term_Vars_1 [.ptr 1 1 0 0]] [.pv 0 [] false,.av 1 [[.sl 0 0]] false]=some (.p (.bool true),sV (t.pre.foldl addU [])):=hp
  have hz:varsT t=isort ltN (t.pre.foldl addU []):=rfl
  rw [hz]
  generalize t.pre.foldl addU []=l at *
  generalize isort ltN l=m at *
  simp only [sV] at hs hp'
  (rw [r_term_Vars (lbY rfl),F_term_Vars];simp (disch:=omega) only [eqZ,↓gc_len,seval,-List.reduceReplicate,reduceCtorEq,allP,mkFn_c,q_term_preorder,hp',hs,gc2,List.length_map])
theorem gc_44 {vs:List AV} {a b c d:Obj}:gc 4 vs [a,b,c,d]=[a,b,c,d]:=gc_same' (by simp)
theorem gc_45 {vs:List AV} {a b c d e:Obj}:gc 4 vs [a,b,c,d,e]=if gcOk 4 vs [a,b,c,d,e]=true then [a,b,c,d] else [a,b,c,d,e]:=by unfold gc;rw [if_neg (by simp)];rfl
def T3 (x y z:Int):Prop:=(x≤0∧y≤0→z≤0∧(z=0→x=0∧y=0))∧(x=0→z=y)∧(y=0→z=x)
def or2 (x y:Int):Int:=if x=0 then y else x
theorem T3.or {x y z x' y' z':Int} (h:T3 x y z) (h':T3 x' y' z'):T3 (or2 x x') (or2 y y') (or2 z z'):=by
  unfold T3 or2 at *
  obtain ⟨h1,h2,h3⟩:=h
  obtain ⟨k1,k2,k3⟩:=h'
  split<;>split<;>split<;>omega
theorem str_lt {a b:ByteArray} (h:slt a b=true):cmpStr a b = -1:=by rw [cmp_cases,if_neg (slt_ne h),if_pos h]
theorem str_eq (a:ByteArray):cmpStr a a=0:=by rw [cmp_cases,if_pos rfl]
theorem str_gt {a b:ByteArray} (h:slt b a=true):cmpStr a b=1:=by rw [cmp_cases,if_neg (fun e=>slt_ne h e.symm),if_neg (by rw [slt_asym h];simp)]
def R3 (x:Int):Prop:=x = -1∨x=0∨x=1
theorem R3.or {x y:Int} (h:R3 x) (h':R3 y):R3 (or2 x y):=by unfold or2;split<;>assumption
end Go.AE.S
