import Derived.Test.YtiinicliedpmjaaGreatC0
namespace Go.AE.S
open Go Go.AE
set_option linter.unusedSimpArgs false
set_option linter.unusedVariables false
variable {τ:Tm} {σ:Store} {rd:Option Nat}
def nodeN (t:Term):Int :=
  if arity t.op<0 then 4 else if 24≤t.op∧t.op≤26 then 4 else if ¬ (t.args.length:Int)=arity t.op then 4
  else if ¬ t.name=bs []∧¬ t.op=1 then 4 else if ¬ t.v=0∧¬ t.op=2∧¬ t.op=21 then 4
  else if t.op=1∧nameOk t.name=false then 5 else if t.w<1 then 3
  else if ¬ (widthW t.op t.w t.v (t.args.map Term.w)).2=0 then 3 else if ¬ (widthW t.op t.w t.v (t.args.map Term.w)).1=t.w then 3 else 0
set_option maxHeartbeats 8000000 in
theorem s_r06_Node (t:Term) (ht:TOk t) (hc:t.args.length≤1000000):R P f_r06_Node [.agg t.row]=some (.int .i64 (nodeN t)):=by
  have hwd:=s_r06_Widths t.args hc
  have hW:=s_r04_Width t.op t.w t.v (t.args.map Term.w) (by rw [List.length_map];exact hc) ht.v
  unfold nodeN
  generalize hr:widthW t.op t.w t.v (t.args.map Term.w)=r at hW ⊢
  obtain ⟨rw,re⟩:=r
  simp only [two] at hW
  rcases Classical.propComplete (arity t.op<0) with h1 | h1
  · (rw [r_r06_Node (lbY rfl),F_r06_Node];simp (disch:=omega) only [eqZ,↓gc_len,seval,-List.reduceReplicate,reduceCtorEq,allP,q_r04_Arity,s_r04_Arity,q_r04_Pattern,s_r04_Pattern,List.length_map,h1])
  rcases Classical.propComplete (24≤t.op∧t.op≤26) with h2 | h2
  · have g2:(t.op∈[24,25,(26:Int)])=True:=by have:=of_eq_true h2;simp;omega
    (rw [r_r06_Node (lbY rfl),F_r06_Node];simp (disch:=omega) only [eqZ,↓gc_len,seval,-List.reduceReplicate,reduceCtorEq,allP,q_r04_Arity,s_r04_Arity,q_r04_Pattern,s_r04_Pattern,List.length_map,h1,h2,g2])
  have g2:(t.op∈[24,25,(26:Int)])=False:=by have:=of_eq_false h2;simp;omega
  rcases Classical.propComplete ((t.args.length:Int)=arity t.op) with h3 | h3
  rotate_left
  · (rw [r_r06_Node (lbY rfl),F_r06_Node];simp (disch:=omega) only [eqZ,↓gc_len,seval,-List.reduceReplicate,reduceCtorEq,allP,q_r04_Arity,s_r04_Arity,q_r04_Pattern,s_r04_Pattern,List.length_map,h1,h2,g2,h3])
  have ho:∃ a b c:Prop,(a=True∨a=False)∧(b=True∨b=False)∧(c=True∨c=False)∧(t.op=1)=a∧(t.op=2)=b∧(t.op=21)=c∧(a→¬ b∧¬ c)∧(b→¬ c) :=
    ⟨_,_,_,Classical.propComplete _,Classical.propComplete _,Classical.propComplete _,rfl,rfl,rfl,fun h=>⟨by omega,by omega⟩,fun h=>by omega⟩
  obtain ⟨a,b,c,ha,hb,hcc,e1,e2,e3,i1,i2⟩:=ho
  rcases ha with rfl | rfl<;>rcases hb with rfl | rfl<;>rcases hcc with rfl | rfl
  all_goals try (exfalso;simp at i1 i2;done)
  all_goals rcases Classical.propComplete (t.name=bs []) with hn | hn<;>rcases Classical.propComplete (t.v=0) with hv | hv
  all_goals try ((rw [r_r06_Node (lbY rfl),F_r06_Node];simp (disch:=omega) only [eqZ,↓gc_len,seval,-List.reduceReplicate,reduceCtorEq,allP,q_r04_Arity,s_r04_Arity,q_r04_Pattern,s_r04_Pattern,List.length_map,h1,h2,g2,h3,e1,e2,e3,hn,hv]);done)
  all_goals cases hk:nameOk t.name
  all_goals try ((rw [r_r06_Node (lbY rfl),F_r06_Node];simp (disch:=omega) only [eqZ,↓gc_len,seval,-List.reduceReplicate,reduceCtorEq,allP,q_r04_Arity,s_r04_Arity,q_r04_Pattern,s_r04_Pattern,List.length_map,h1,h2,g2,h3,e1,e2,e3,hn,hv,q_r06_Name,s_r06_Name,hk]);done)
  all_goals rcases Classical.propComplete (t.w<1) with h7 | h7
  all_goals try ((rw [r_r06_Node (lbY rfl),F_r06_Node];simp (disch:=omega) only [eqZ,↓gc_len,seval,-List.reduceReplicate,reduceCtorEq,allP,q_r04_Arity,s_r04_Arity,q_r04_Pattern,s_r04_Pattern,List.length_map,h1,h2,g2,h3,e1,e2,e3,hn,hv,q_r06_Name,s_r06_Name,hk,h7,q_r06_Widths,hwd,q_r04_Width,hW]);done)
  all_goals rcases Classical.propComplete (re=0) with h8 | h8
  all_goals try ((rw [r_r06_Node (lbY rfl),F_r06_Node];simp (disch:=omega) only [eqZ,↓gc_len,seval,-List.reduceReplicate,reduceCtorEq,allP,q_r04_Arity,s_r04_Arity,q_r04_Pattern,s_r04_Pattern,List.length_map,h1,h2,g2,h3,e1,e2,e3,hn,hv,q_r06_Name,s_r06_Name,hk,h7,q_r06_Widths,hwd,q_r04_Width,hW,h8]);done)
  all_goals rcases Classical.propComplete (rw=t.w) with h9 | h9
  all_goals (rw [r_r06_Node (lbY rfl),F_r06_Node];simp (disch:=omega) only [eqZ,↓gc_len,seval,-List.reduceReplicate,reduceCtorEq,allP,q_r04_Arity,s_r04_Arity,q_r04_Pattern,s_r04_Pattern,List.length_map,h1,h2,g2,h3,e1,e2,e3,hn,hv,q_r06_Name,s_r06_Name,hk,h7,q_r06_Widths,hwd,q_r04_Width,hW,h8,h9])
set_option maxHeartbeats 8000000 in
theorem s_term_node (t:Term) (ht:TOk t) (hc:t.args.length≤1000000):R P f_term_node [.agg t.row]=some (.int .i64 (nodeN t)):=by
  have hwd:=s_term_widths t.args hc
  have hW:=s_opinfo_Width t.op t.w t.v (t.args.map Term.w) (by rw [List.length_map];exact hc) ht.v
  unfold nodeN
  generalize hr:widthW t.op t.w t.v (t.args.map Term.w)=r at hW ⊢
  obtain ⟨rw,re⟩:=r
  simp only [two] at hW
  rcases Classical.propComplete (arity t.op<0) with h1 | h1
  · (rw [r_term_node (lbY rfl),F_term_node];simp (disch:=omega) only [eqZ,↓gc_len,seval,-List.reduceReplicate,reduceCtorEq,allP,q_opinfo_Arity,s_opinfo_Arity,q_opinfo_Pattern,s_opinfo_Pattern,List.length_map,h1])
  rcases Classical.propComplete (24≤t.op∧t.op≤26) with h2 | h2
  · have g2:(t.op∈[24,25,(26:Int)])=True:=by have:=of_eq_true h2;simp;omega
    (rw [r_term_node (lbY rfl),F_term_node];simp (disch:=omega) only [eqZ,↓gc_len,seval,-List.reduceReplicate,reduceCtorEq,allP,q_opinfo_Arity,s_opinfo_Arity,q_opinfo_Pattern,s_opinfo_Pattern,List.length_map,h1,h2,g2])
  have g2:(t.op∈[24,25,(26:Int)])=False:=by have:=of_eq_false h2;simp;omega
  rcases Classical.propComplete ((t.args.length:Int)=arity t.op) with h3 | h3
  rotate_left
  · (rw [r_term_node (lbY rfl),F_term_node];simp (disch:=omega) only [eqZ,↓gc_len,seval,-List.reduceReplicate,reduceCtorEq,allP,q_opinfo_Arity,s_opinfo_Arity,q_opinfo_Pattern,s_opinfo_Pattern,List.length_map,h1,h2,g2,h3])
  have ho:∃ a b c:Prop,(a=True∨a=False)∧(b=True∨b=False)∧(c=True∨c=False)∧(t.op=1)=a∧(t.op=2)=b∧(t.op=21)=c∧(a→¬ b∧¬ c)∧(b→¬ c) :=
    ⟨_,_,_,Classical.propComplete _,Classical.propComplete _,Classical.propComplete _,rfl,rfl,rfl,fun h=>⟨by omega,by omega⟩,fun h=>by omega⟩
  obtain ⟨a,b,c,ha,hb,hcc,e1,e2,e3,i1,i2⟩:=ho
  rcases ha with rfl | rfl<;>rcases hb with rfl | rfl<;>rcases hcc with rfl | rfl
  all_goals try (exfalso;simp at i1 i2;done)
  all_goals rcases Classical.propComplete (t.name=bs []) with hn | hn<;>rcases Classical.propComplete (t.v=0) with hv | hv
  all_goals try ((rw [r_term_node (lbY rfl),F_term_node];simp (disch:=omega) only [eqZ,↓gc_len,seval,-List.reduceReplicate,reduceCtorEq,allP,q_opinfo_Arity,s_opinfo_Arity,q_opinfo_Pattern,s_opinfo_Pattern,List.length_map,h1,h2,g2,h3,e1,e2,e3,hn,hv]);done)
  all_goals cases hk:nameOk t.name
  all_goals try ((rw [r_term_node (lbY rfl),F_term_node];simp (disch:=omega) only [eqZ,↓gc_len,seval,-List.reduceReplicate,reduceCtorEq,allP,q_opinfo_Arity,s_opinfo_Arity,q_opinfo_Pattern,s_opinfo_Pattern,List.length_map,h1,h2,g2,h3,e1,e2,e3,hn,hv,q_term_Name,s_term_Name,hk]);done)
  all_goals rcases Classical.propComplete (t.w<1) with h7 | h7
  all_goals try ((rw [r_term_node (lbY rfl),F_term_node];simp (disch:=omega) only [eqZ,↓gc_len,seval,-List.reduceReplicate,reduceCtorEq,allP,q_opinfo_Arity,s_opinfo_Arity,q_opinfo_Pattern,s_opinfo_Pattern,List.length_map,h1,h2,g2,h3,e1,e2,e3,hn,hv,q_term_Name,s_term_Name,hk,h7,q_term_widths,hwd,q_opinfo_Width,hW]);done)
  all_goals rcases Classical.propComplete (re=0) with h8 | h8
  all_goals try ((rw [r_term_node (lbY rfl),F_term_node];simp (disch:=omega) only [eqZ,↓gc_len,seval,-List.reduceReplicate,reduceCtorEq,allP,q_opinfo_Arity,s_opinfo_Arity,q_opinfo_Pattern,s_opinfo_Pattern,List.length_map,h1,h2,g2,h3,e1,e2,e3,hn,hv,q_term_Name,s_term_Name,hk,h7,q_term_widths,hwd,q_opinfo_Width,hW,h8]);done)
  all_goals rcases Classical.propComplete (rw=t.w) with h9 | h9
  all_goals (rw [r_term_node (lbY rfl),F_term_node];simp (disch:=omega) only [eqZ,↓gc_len,seval,-List.reduceReplicate,reduceCtorEq,allP,q_opinfo_Arity,s_opinfo_Arity,q_opinfo_Pattern,s_opinfo_Pattern,List.length_map,h1,h2,g2,h3,e1,e2,e3,hn,hv,q_term_Name,s_term_Name,hk,h7,q_term_widths,hwd,q_opinfo_Width,hW,h8,h9])
end Go.AE.S
namespace Go.AE
section
variable {P:Prog} {σ σ':Store} {nt n:Nat} {rd:Option Nat} {g:AV}
def gounds (P:Prog) (g:AV):List (List AV)→Store→Option (Bool×Store)
  | [],σ=>some (true,σ)
  | a :: r,σ=>match callV P g a σ with
    | some (.p (.bool true),σ')=>if σ'.length=σ.length then gounds P g r σ' else none
    | some (.p (.bool false),σ')=>if σ'.length=σ.length then some (false,σ') else none
    | _=>none
def goundsThen (P:Prog) (g:AV) (r:List (List AV)):Option (Bool×Store)→Option (Bool×Store)
  | some (true,σ)=>gounds P g r σ
  | some (false,σ)=>some (false,σ)
  | none=>none
theorem gounds_append:∀ (x y:List (List AV)) (σ:Store),gounds P g (x++y) σ=goundsThen P g y (gounds P g x σ)
  | [],y,σ=>rfl
  | a :: x,y,σ=>by
    simp only [List.cons_append,gounds]
    split
    · rename_i σ' h
      split
      · exact gounds_append x y σ'
      · rfl
    · rename_i σ' h
      split<;>rfl
    · rfl
theorem gounds_len:∀ (x:List (List AV)) (σ σ':Store) (b:Bool),gounds P g x σ=some (b,σ')→σ'.length=σ.length
  | [],σ,σ',b,h=>by simp only [gounds,Option.some.injEq,Prod.mk.injEq] at h;rw [← h.2]
  | a :: x,σ,σ',b,h=>by
    simp only [gounds] at h
    split at h
    · rename_i σ1 h1
      split at h
      · rename_i hl
        rw [gounds_len x σ1 σ' b h,hl]
      · cases h
    · rename_i σ1 h1
      split at h
      · rename_i hl
        simp only [Option.some.injEq,Prod.mk.injEq] at h
        rw [← h.2,hl]
      · cases h
    · cases h
theorem gounds_cons {a:List AV} {r:List (List AV)} {b:Bool} (h:gounds P g (a :: r) σ=some (b,σ')) :
    ∃ c σ1,callV P g a σ=some (.p (.bool c),σ1)∧σ1.length=σ.length∧(c=true→gounds P g r σ1=some (b,σ'))∧(c=false→b=false∧σ'=σ1):=by
  simp only [gounds] at h
  split at h
  · rename_i σ1 h1
    split at h
    · rename_i hl
      exact ⟨true,σ1,h1,hl,fun _=>h,by simp⟩
    · cases h
  · rename_i σ1 h1
    split at h
    · rename_i hl
      simp only [Option.some.injEq,Prod.mk.injEq] at h
      exact ⟨false,σ1,h1,hl,by simp,fun _=>⟨h.1.symm,h.2.symm⟩⟩
    · cases h
  · cases h
theorem gounds_fold {S T α:Type} (arg:α→List AV) (sto:S→Store) (f:Nat→S→α→S ⊕ T) (out:T→Store) (ok:Nat→S→Prop) (hlen:∀ s,(sto s).length=n) (hout:∀ t,(out t).length=n) (as:List α)
    (hstep:∀ (i:Nat) (a:α) (s:S),as[i]? = some a→ok i s→(∀ s',f i s a=.inl s'→ok (i+1) s') ∧
      callV P g (arg a) (sto s)=(match f i s a with
        | .inl s'=>some (.p (.bool true),sto s')
        | .inr t=>some (.p (.bool false),out t))) :
    ∀ (r:List α) (i:Nat) (s:S),as.drop i=r→ok i s→gounds P g (r.map arg) (sto s)=(match foldE f i s r with
        | .inl s'=>some (true,sto s')
        | .inr t=>some (false,out t)):=by
  intro r
  induction r with
  | nil=>intro i s _ _;rfl
  | cons a r ih=>
    intro i s hd hok
    have ha:as[i]? = some a:=by
      have:=congrArg (·[0]?) hd
      simpa using this
    have hr:as.drop (i+1)=r:=by
      have:=congrArg (List.drop 1) hd
      simpa using this
    obtain ⟨h1,h2⟩:=hstep i a s ha hok
    simp only [List.map_cons,gounds,foldE]
    rw [h2]
    cases hf:f i s a with
    | inl s'=>
      simp only
      rw [if_pos (by rw [hlen,hlen]),ih (i+1) s' hr (h1 s' hf)]
    | inr t=>
      simp only
      rw [if_pos (by rw [hlen,hout])]
theorem range_foldG {S T α:Type} {gv:AV} {kept:List (Nat×AV)} {ps:List Nat} {asg b:K} {f0:FuncId} {fn:AFn} {cap:List AV} (hfn:fnOf gv=some (f0,cap)) (hF:P.fn f0=some fn) (hps:nodup ps=true∧ps.all (· < nt)=true)
    (X:List Obj) (arg:α→List AV) (sto:S→Store) (f:Nat→S→α→S ⊕ T) (out:T→Ex×Store) (ok:Nat→S→Prop) (as:List α) (s0:S) (hrd:aroundOk rd (sto s0)=true)
    (hcall:∀ (a:α) (σ σ':Store) (bb:Bool),σ.length=(sto s0).length+1→σ'.length=(sto s0).length+1→round P (sto s0).length (arg a) (σ++X)=some (.p (.bool bb),σ'++X)→callV P g (arg a) (σ++X)=some (.p (.bool bb),σ'++X))
    (iter:∀ (σ σ':Store) (bb:Bool),σ.length=(sto s0).length+1→σ'.length=(sto s0).length+1→σ'.all (Obj.below ((sto s0).length+1))=true→gounds P g (as.map arg) (σ++X)=some (bb,σ'++X)→∃ v,call P fn (.yield (sto s0).length :: cap) σ=some (v,σ'))
    (hlen:∀ s,(sto s).length=(sto s0).length) (hout:∀ t,(out t).2.length=(sto s0).length)
    (hbel:∀ s m,(sto s0).length≤m→(sto s).all (Obj.below m)=true) (hbelo:∀ t m,(sto s0).length≤m→(out t).2.all (Obj.below m)=true) (hkb:(kept.all fun x=>below ((sto s0).length+1) x.2)=true) (hnn:∀ t,(out t).1≠.normal)
    (hstep:∀ (i:Nat) (a:α) (s:S),as[i]? = some a→ok i s→(∀ s',f i s a=.inl s'→ok (i+1) s') ∧
      round P (sto s0).length (arg a) ((sto s++[.loop kept nt ps asg b none])++X)=(match f i s a with
        | .inl s'=>some (.p (.bool true),(sto s'++[.loop kept nt ps asg b none])++X)
        | .inr t=>some (.p (.bool false),((out t).2++[.loop kept nt ps asg b (some (out t).1)])++X)))
    (h0:ok 0 s0):rangeR P ps asg b gv kept (sto s0) nt rd=some (rangeEnd sto out (foldE f 0 s0 as)):=by
  have hr:=gounds_fold (P:=P) (g:=g) (n:=(sto s0).length+1+X.length) arg (fun s=>(sto s++[.loop kept nt ps asg b none])++X) f (fun t=>((out t).2++[.loop kept nt ps asg b (some (out t).1)])++X) ok
    (fun s=>by simp [hlen];omega) (fun t=>by simp [hout];omega) as (fun i a s ha hok=>by
      obtain ⟨h1,h2⟩:=hstep i a s ha hok
      refine ⟨h1,?_⟩
      cases hf:f i s a with
      | inl s'=>rw [hf] at h2;exact hcall a _ _ _ (by simp [hlen]) (by simp [hlen]) h2
      | inr t=>rw [hf] at h2;exact hcall a _ _ _ (by simp [hlen]) (by simp [hout]) h2) as 0 s0 rfl h0
  have gcs:∀ x:Store,x.length=(sto s0).length→x.all (Obj.below (sto s0).length)=true→gc (sto s0).length [] (x++[.gone])=x:=by
    intro x hx hb
    unfold gc
    rw [if_neg (by simp [hx])]
    have ht:(x++[Obj.gone]).take (sto s0).length=x:=by rw [← hx];simp
    rw [if_pos (by simp only [gcOk,ht,List.all_nil,hb,Bool.and_self]),ht]
  have seta:∀ (x:Store) (o o':Obj),x.length=(sto s0).length→(x++[o]).set (sto s0).length o'=x++[o']:=by
    intro x o o' hx
    rw [← hx];simp
  have geta:∀ (x:Store) (o:Obj),x.length=(sto s0).length→(x++[o])[(sto s0).length]? = some o:=by
    intro x o hx
    rw [← hx];simp
  have bl:∀ (x:Store) (e:Option Ex),x.all (Obj.below ((sto s0).length+1))=true→(x++[Obj.loop kept nt ps asg b e]).all (Obj.below ((sto s0).length+1))=true:=by
    intro x e hx
    rw [List.all_append,hx]
    simp only [List.all_cons,List.all_nil,Bool.and_true,Bool.true_and]
    exact hkb
  unfold rangeR
  simp only [hfn,hF,Option.bind_some,hrd,hps,Bool.and_self,if_true]
  cases hf:foldE f 0 s0 as with
  | inl s=>
    rw [hf] at hr
    obtain ⟨v,hv⟩:=iter _ _ _ (by simp) (by simp [hlen]) (bl _ _ (hbel s _ (by omega))) hr
    rw [hv]
    simp only [Option.bind_some,geta _ _ (hlen s),seta _ _ _ (hlen s),gcs _ (hlen s) (hbel s _ (Nat.le_refl _)),rangeEnd]
  | inr t=>
    rw [hf] at hr
    obtain ⟨v,hv⟩:=iter _ _ _ (by simp) (by simp [hout]) (bl _ _ (hbelo t _ (by omega))) hr
    rw [hv]
    have hn:=hnn t
    simp only [Option.bind_some,geta _ _ (hout t),seta _ _ _ (hout t),gcs _ (hout t) (hbelo t _ (Nat.le_refl _)),rangeEnd]
end
namespace S
open Go Go.AE
set_option linter.unusedSimpArgs false
set_option linter.unusedVariables false
variable {τ:Tm} {σ:Store} {rd:Option Nat}
def posF (g:AV) (s:Store) (a:Term):Store ⊕ Store:=match gounds P g (a.post.map argT) s with
  | some (true,s')=>.inl s'
  | some (false,s')=>.inr s'
  | none=>.inr s
theorem fold_pos (g:AV):∀ (as:List Term) (i:Nat) (s:Store) (b:Bool) (s':Store),gounds P g ((Term.posts as).map argT) s=some (b,s')→foldE (fun _ s a=>posF g s a) i s as=if b=true then .inl s' else .inr s'
  | [],i,s,b,s',h=>by
    simp only [Term.posts,List.map_nil,gounds,Option.some.injEq,Prod.mk.injEq] at h
    obtain ⟨rfl,rfl⟩:=h
    rfl
  | a :: as,i,s,b,s',h=>by
    simp only [Term.posts,List.map_append,gounds_append] at h
    simp only [foldE,posF]
    cases h1:gounds P g (a.post.map argT) s with
    | none=>rw [h1] at h;cases h
    | some x=>
      obtain ⟨c,s1⟩:=x
      rw [h1] at h
      cases c with
      | true=>exact fold_pos g as (i+1) s1 b s' h
      | false=>
        simp only [goundsThen,Option.some.injEq,Prod.mk.injEq] at h
        obtain ⟨rfl,rfl⟩:=h
        rfl
abbrev e_pos (g:AV) (t:Term) (i:Int):List (Nat×AV):=[(1,g),(2,.p (.ptr t.row 0)),(8,.p (.lst (t.args.map Term.row))),(9,.p (.int .i64 t.args.length)),(10,.p (.int .i64 i))]
set_option maxHeartbeats 4000000 in
theorem c_postorder (g:AV) (t:Term):t.count≤1000000→∀ (σ σ':Store) (b:Bool),gounds P g (t.post.map argT) σ=some (b,σ')→call P F_term_postorder [.p (.agg t.row),g] σ=some (.p (.bool b),σ'):=by
  induction t using Term.ind with
  | h t ih=>
  intro hc σ σ' b hr
  have hlen:=Term.counts_len t.args
  have hct:=Term.count_eq t
  have hl:=gounds_len _ _ _ _ hr
  rw [Term.post_eq,List.map_append,gounds_append] at hr
  cases h3:gounds P g ((Term.posts t.args).map argT) σ with
  | none=>rw [h3] at hr;cases hr
  | some x=>
    obtain ⟨c,σ1⟩:=x
    rw [h3] at hr
    have hl3:=gounds_len _ _ _ _ h3
    have h:=loop_to (P:=P) (nt:=22) (lv:=[1,2,8,9,10]) (b:=B0_term_postorder) (rd:=none) (as:=t.args) (fun i (_:Store)=>e_pos g t i) (fun s=>s) (fun _ s a=>posF g s a) (fun s r=>ret1 4 (.bool false) s r) (fun i s=>∃ b s',gounds P g ((Term.posts (t.args.drop i)).map argT) s=some (b,s'))
      (fun i a s ha hi hs=>by
        obtain ⟨b2,s2,hs⟩:=hs
        have hm:=List.mem_of_getElem? ha
        have hac:=Term.counts_mem hm
        have hlt:((i:Int)<t.args.length)=True:=by simpa using hi
        have hd:t.args.drop i=a :: t.args.drop (i+1):=by rw [List.drop_eq_getElem_cons hi];rw [List.getElem?_eq_getElem hi] at ha;cases ha;rfl
        rw [hd] at hs
        simp only [Term.posts,List.map_append,gounds_append] at hs
        cases hx:gounds P g (a.post.map argT) s with
        | none=>rw [hx] at hs;cases hs
        | some x=>
          obtain ⟨c,s1⟩:=x
          rw [hx] at hs
          have hv:=ih a hm (by omega) s s1 c hx
          have hl1:=gounds_len _ _ _ _ hx
          have gc2:∀ vs,gc s.length vs s1=s1:=fun vs=>gc_same' (by omega)
          cases c with
          | true=>
            refine ⟨fun s' he=>?_,?_⟩
            · simp only [posF,hx] at he
              cases he
              exact ⟨_,_,hs⟩
            · simp only [B0_term_postorder,posF,hx]
              simp (disch:=omega) only [eqZ,↓gc_len,seval,-List.reduceReplicate,reduceCtorEq,allP,hlt,v_iadr (map_get (f:=Term.row) ha) a.row_len,q_term_postorder,hv,gc2,e_pos]
          | false=>
            refine ⟨fun s' he=>?_,?_⟩
            · simp only [posF,hx] at he
              cases he
            · simp only [B0_term_postorder,posF,hx]
              simp (disch:=omega) only [eqZ,↓gc_len,seval,-List.reduceReplicate,reduceCtorEq,allP,hlt,v_iadr (map_get (f:=Term.row) ha) a.row_len,q_term_postorder,hv,gc2,ret1,e_pos]) (fun i s=>rfl) σ ⟨c,σ1,h3⟩
    rw [fold_pos g t.args 0 σ c σ1 h3] at h
    cases c with
    | true=>
      obtain ⟨_,h⟩:=h
      obtain ⟨c,σ2,k1,k2,k3,k4⟩:=gounds_cons hr
      simp only [argT] at k1
      have e:b=c∧σ'=σ2:=by
        cases c with
        | true=>have:=k3 rfl;simp only [List.map_nil,gounds,Option.some.injEq,Prod.mk.injEq] at this;exact ⟨this.1.symm,this.2.symm⟩
        | false=>exact k4 rfl
      obtain ⟨rfl,rfl⟩:=e
      have gc3:∀ vs,gc σ.length vs σ'=σ':=fun vs=>gc_same' (by omega)
      have h':loopAt P L0_term_postorder (e_pos g t 0) σ 22 none=_:=h
      simp only [e_pos] at h'
      (rw [call_go (lbY rfl),F_term_postorder];simp (disch:=omega) only [eqZ,↓gc_len,seval,-List.reduceReplicate,reduceCtorEq,allP,List.length_map,k0_term_postorder,h',B0_term_postorder,Int.lt_irrefl,k1,gc3])
    | false=>
      simp only [goundsThen,Option.some.injEq,Prod.mk.injEq] at hr
      obtain ⟨rfl,rfl⟩:=hr
      have gc3:∀ vs,gc σ.length vs σ1=σ1:=fun vs=>gc_same' (by omega)
      obtain ⟨⟨e,τ',σ2,nt',rd'⟩,g1,g2,g3,g4⟩:=h
      simp only at g2 g3 g4
      subst g2;subst g4
      have h':loopAt P L0_term_postorder (e_pos g t 0) σ 22 none=some (.ret,⟨τ',σ2,nt',rd'⟩):=g1
      simp only [e_pos] at h'
      (rw [call_go (lbY rfl),F_term_postorder];simp (disch:=omega) only [eqZ,↓gc_len,seval,-List.reduceReplicate,reduceCtorEq,allP,List.length_map,k0_term_postorder,h',g3,gc3])
end S
end Go.AE
namespace Go.AE.S
open Go Go.AE
set_option linter.unusedSimpArgs false
set_option linter.unusedVariables false
variable {τ:Tm} {σ:Store} {rd:Option Nat}
theorem callV_c {f:FuncId} {cap args:List AV}:callV P (.fn f cap) args σ=callF P f (args++cap) σ:=by rw [callV.eq_def]
abbrev obY (n:Nat):Obj:=.av 1 [[.yield n]] false
theorem init_y {n:Nat}:initV σ 1 true (some [.yield n])=some (.ptr σ.length 1 0 0,σ++[obY n]):=rfl
theorem cells_y {n:Nat}:cellsOf 1 false (.yield n)=some [.yield n]:=rfl
theorem ld_y {n:Nat}:ldO 1 0 0 1 false (some (obY n))=some (.yield n):=rfl
theorem mkFn_c {f:FuncId} {b n i o:Nat}:mkFn f [.ptr b n i o]=.fn f [.ptr b n i o]:=rfl
theorem v_All11 (u:Term) (hc:u.count≤1000000) (m n:Nat) (σ σ':Store) (b:Bool) (hY:σ[m]? = some (obY n)) (hr:round P n (argT u) σ=some (.p (.bool b),σ')) (hl:σ'.length=σ.length) :
    callV P (.fn f_term_All_1_1 [.ptr m 1 0 0]) (argT u) σ=some (.p (.bool b),σ'):=by
  have hcp:=s_term_Copy u hc
  have gc3:∀ vs,gc σ.length vs σ'=σ':=fun vs=>gc_same' (by omega)
  rw [callV_c,q_term_All_1_1]
  simp only [argT,List.cons_append,List.nil_append] at hr ⊢
  (rw [call_go (lbY rfl),F_term_All_1_1];simp (disch:=omega) only [eqZ,↓gc_len,seval,-List.reduceReplicate,reduceCtorEq,allP,hY,ld_y,q_term_Copy,hcp,hr,gc3])
theorem c_All1 (t:Term) (hc:t.count≤1000000) (n:Nat) (σ σ':Store) (b:Bool) (hl:σ'.length=σ.length) (hb:σ'.all (Obj.below σ.length)=true)
    (hg:gounds P (.fn f_term_All_1_1 [.ptr σ.length 1 0 0]) (t.post.map argT) (σ++[obY n])=some (b,σ'++[obY n])):call P F_term_All_1 [.yield n,.p (.ptr t.row 0)] σ=some (.p (.tup []),σ'):=by
  have hp:=c_postorder _ t hc _ _ _ hg
  have gc3:gc σ.length [.p (.tup [])] (σ'++[obY n])=σ':=by
    unfold gc
    rw [if_neg (by simp [hl])]
    have ht:(σ'++[obY n]).take σ.length=σ':=by rw [← hl];simp
    rw [if_pos (by simp only [gcOk,ht,List.all_cons,List.all_nil,hb,below_p,Bool.and_self]),ht]
  (rw [call_go (lbY rfl),F_term_All_1];simp (disch:=omega) only [eqZ,↓gc_len,seval,-List.reduceReplicate,reduceCtorEq,allP,cells_y,init_y,mkFn_c,q_term_postorder,hp,gc3])
theorem s_term_All (t:Term):R P f_term_All [.agg t.row]=some (.fn f_term_All_1 [.ptr t.row 0]):=by
  (rw [r_term_All (lbY rfl),F_term_All];simp (disch:=omega) only [eqZ,↓gc_len,seval,-List.reduceReplicate,reduceCtorEq,allP,mkFn])
theorem range_post {S T:Type} {kept:List (Nat×AV)} {ps:List Nat} {asg b:K} {nt:Nat} (t:Term) (hc:t.count≤1000000) (hps:nodup ps=true∧ps.all (· < nt)=true)
    (sto:S→Store) (f:Nat→S→Term→S ⊕ T) (out:T→Ex×Store) (ok:Nat→S→Prop) (s0:S) (hrd:aroundOk rd (sto s0)=true)
    (hlen:∀ s,(sto s).length=(sto s0).length) (hout:∀ t,(out t).2.length=(sto s0).length)
    (hbel:∀ s m,(sto s0).length≤m→(sto s).all (Obj.below m)=true) (hbelo:∀ t m,(sto s0).length≤m→(out t).2.all (Obj.below m)=true) (hkb:(kept.all fun x=>below ((sto s0).length+1) x.2)=true) (hnn:∀ t,(out t).1≠.normal)
    (hstep:∀ (i:Nat) (a:Term) (s:S),t.post[i]? = some a→ok i s→(∀ s',f i s a=.inl s'→ok (i+1) s') ∧
      round P (sto s0).length [.p (.agg a.row)] ((sto s++[.loop kept nt ps asg b none])++[obY (sto s0).length])=(match f i s a with
        | .inl s'=>some (.p (.bool true),(sto s'++[.loop kept nt ps asg b none])++[obY (sto s0).length])
        | .inr t=>some (.p (.bool false),((out t).2++[.loop kept nt ps asg b (some (out t).1)])++[obY (sto s0).length])))
    (h0:ok 0 s0):rangeR P ps asg b (.p (.fn f_term_All_1 [.ptr t.row 0])) kept (sto s0) nt rd=some (rangeEnd sto out (foldE f 0 s0 t.post)):=by
  have hpc:∀ a∈t.post,a.count≤1000000:=by
    intro a ha
    have key:∀ (t:Term),∀ a∈t.pre,a.count≤t.count:=by
      intro t
      induction t using Term.ind with
      | h t ih=>
      intro a ha
      rcases mem_pre.1 ha with rfl | ⟨b,hb,hab⟩
      · exact Nat.le_refl _
      · have h1:=ih b hb a hab
        have h2:=Term.counts_mem hb
        have h3:=Term.count_eq t
        omega
    have:=key t a ((mem_post t a).1 ha)
    omega
  refine range_foldG (α:={a:Term // a∈t.post}) (f0:=f_term_All_1) (cap:=[.p (.ptr t.row 0)]) (g:=.fn f_term_All_1_1 [.ptr ((sto s0).length+1) 1 0 0]) rfl p_term_All_1 hps [obY (sto s0).length] (fun a=>argT a.1) sto (fun i s a=>f i s a.1) out ok
    (t.post.attach) s0 hrd ?_ ?_ hlen hout hbel hbelo hkb hnn ?_ h0 |>.trans ?_
  · intro a σ σ' bb h1 h2 hr
    exact v_All11 a.1 (hpc a.1 a.2) _ _ _ _ _ (by rw [← h1];simp) hr (by simp [h1,h2])
  · intro σ σ' bb h1 h2 hb hg
    refine ⟨_,c_All1 t hc _ σ σ' bb (by omega) (by rw [h1];exact hb) ?_⟩
    rw [h1]
    have e:(t.post.attach.map fun a:{a:Term // a∈t.post}=>argT a.1)=t.post.map argT:=by
      have:=List.attach_map_subtype_val t.post
      conv=>rhs;rw [← this]
      rw [List.map_map]
      rfl
    rw [← e]
    exact hg
  · intro i a s ha hok
    have:t.post[i]? = some a.1:=by
      have:=congrArg (Option.map Subtype.val) ha
      rw [← List.getElem?_map,List.attach_map_subtype_val] at this
      exact this
    exact hstep i a.1 s this hok
  · have e:∀ (l:List {a:Term // a∈t.post}) (i:Nat) (s:S),foldE (fun i s (a:{a:Term // a∈t.post})=>f i s a.1) i s l=foldE f i s (l.map Subtype.val):=by
      intro l
      induction l with
      | nil=>intro i s;rfl
      | cons a l ih=>
        intro i s
        simp only [foldE,List.map_cons]
        cases f i s a.1 with
        | inl s'=>exact ih _ _
        | inr t=>rfl
    rw [e,List.attach_map_subtype_val]
def firstN:List Term→Int
  | []=>0
  | a :: r=>if nodeN a=0 then firstN r else nodeN a
abbrev Seen:=List (ByteArray×Int)
def entW (e:ByteArray×Int):PV×AV:=(.str e.1,.p (.int .i64 e.2))
def lkW:Seen→ByteArray→Option Int
  | [],_=>none
  | e :: r,k=>if k=e.1 then some e.2 else lkW r k
def stW (k:ByteArray) (w:Int):Seen→Seen
  | []=>[(k,w)]
  | e :: r=>if k=e.1 then (k,w) :: r else e :: stW k w r
theorem find_entW (k:ByteArray):∀ s:Seen,findKey .str (.str k) (s.map entW)=some ((lkW s k).map fun w=>.p (.int .i64 w))
  | []=>rfl
  | e :: r=>by
    simp only [List.map_cons,findKey,entW,eq_str,lkW]
    by_cases h:k=e.1
    · simp [h]
    · simp only [h,decide_false,if_false]
      exact find_entW k r
theorem set_entW (k:ByteArray) (w:Int):∀ s:Seen,setKey .str (.str k) (.p (.int .i64 w)) (s.map entW)=some ((stW k w s).map entW)
  | []=>rfl
  | e :: r=>by
    simp only [List.map_cons,setKey,entW,eq_str,stW]
    by_cases h:k=e.1
    · simp [h,entW]
    · simp only [h,decide_false,if_false]
      rw [set_entW k w r];rfl
theorem below_entW (n:Nat) (s:Seen):((s.map entW).all fun e=>AE.below n e.2)=true:=by
  rw [List.all_eq_true]
  intro x hx
  obtain ⟨e,_,rfl⟩:=List.mem_map.1 hx
  exact below_p
def ckB (s:Seen) (u:Term):Bool:=match lkW s u.name with
  | some w=>decide (¬ w=u.w)
  | none=>false
def ckF (_:Nat) (s:Bool×Seen) (u:Term):(Bool×Seen) ⊕ Int :=
  if nodeN u=0 then if u.op=1 then .inl (s.1 || ckB s.2 u,stW u.name u.w s.2) else .inl s else .inr (nodeN u)
abbrev sK (e:Int) (s:Bool×Seen):Store:=[.pv 1 [[.int .i64 e]] false,.map (s.2.map entW) false,.av 1 [[.map 1]] false,.pv 1 [[.bool s.1]] false]
theorem st_c3 {a b c:Obj} {v w:Bool} {r:Store}:storeV (a :: b :: c :: .pv 1 [[.bool w]] false :: r) 1 (.ptr 3 1 0 0) (.p (.bool v))=some (a :: b :: c :: .pv 1 [[.bool v]] false :: r):=rfl
theorem st_c0 {a b:Int} {k k':IntKind} {es:Nat} {r:Store}:stO (.pv es [[.int k a]] false :: r) 0 1 0 0 [.p (.int k' b)] (some (.pv es [[.int k a]] false))=some (.pv es [[.int k' b]] false :: r):=rfl
theorem gc_66 {vs:List AV} {a b c d e f:Obj}:gc 6 vs [a,b,c,d,e,f]=[a,b,c,d,e,f]:=gc_same' (by simp)
theorem cells_b {b:Bool}:cellsOf 1 false (.p (.bool b))=some [.p (.bool b)]:=rfl
theorem init_n1 {v:PV}:initV σ 1 false (some [.p v])=some (.ptr σ.length 1 0 0,σ++[.pv 1 [[v]] false]):=rfl
theorem ld_ci {k:IntKind} {v:Int} {es:Nat} {fr:Bool}:ldO 1 0 0 1 false (some (.pv es [[.int k v]] fr))=some (.p (.int k v)):=rfl
theorem ld_c3 {v:Bool} {es:Nat} {fr:Bool}:ldO 1 0 0 1 false (some (.pv es [[.bool v]] fr))=some (.p (.bool v)):=rfl
theorem post_TOk {t:Term} (ht:TOk t):∀ a∈t.post,TOk a:=by
  intro a ha
  have key:∀ t:Term,TOk t→∀ a∈t.pre,TOk a:=by
    intro t
    induction t using Term.ind with
    | h t ih=>
    intro ht a ha
    rcases mem_pre.1 ha with rfl | ⟨b,hb,hab⟩
    · exact ht
    · exact ih b hb (ht.args hb) a hab
  exact key t ht a ((mem_post t a).1 ha)
theorem post_count {t:Term}:∀ a∈t.post,a.count≤t.count:=by
  intro a ha
  have key:∀ t:Term,∀ a∈t.pre,a.count≤t.count:=by
    intro t
    induction t using Term.ind with
    | h t ih=>
    intro a ha
    rcases mem_pre.1 ha with rfl | ⟨b,hb,hab⟩
    · exact Nat.le_refl _
    · have h1:=ih b hb a hab
      have h2:=Term.counts_mem hb
      have h3:=Term.count_eq t
      omega
  exact key t a ((mem_post t a).1 ha)
set_option maxHeartbeats 8000000 in
theorem rg_term_Check (t:Term) (ht:TOk t) (hc:t.count≤1000000):rangeR P [21] A0_term_Check B0_term_Check (.p (.fn f_term_All_1 [.ptr t.row 0])) [(2,.ptr 0 1 0 0),(5,.ptr 2 1 0 0),(6,.ptr 3 1 0 0)] (sK 0 (false,[])) 53 none =
    some (rangeEnd (sK 0) (fun x:Int×(Bool×Seen)=>(.ret,sK x.1 x.2)) (foldE (fun i s u=>match ckF i s u with | .inl s'=>.inl s' | .inr e=>.inr (e,s)) 0 (false,[]) t.post)):=by
  refine range_post (rd:=none) (kept:=[(2,.ptr 0 1 0 0),(5,.ptr 2 1 0 0),(6,.ptr 3 1 0 0)]) (ps:=[21]) (asg:=A0_term_Check) (b:=B0_term_Check) (nt:=53) t hc ⟨rfl,rfl⟩ (sK 0) (fun i s u=>match ckF i s u with | .inl s'=>.inl s' | .inr e=>.inr (e,s)) (fun x:Int×(Bool×Seen)=>(.ret,sK x.1 x.2))
    (fun _ _=>True) (false,[]) rfl (fun _=>rfl) (fun _=>rfl) (fun s m hm=>?_) (fun s m hm=>?_) (by simp [below]) (fun _=>by simp) (fun i u s ha _=>?_) trivial
  · have:(1:Nat)<m:=by have:(4:Nat)≤m:=hm;omega
    simp only [sK,List.all_cons,List.all_nil,obj_below,obj_belowM,obj_belowA,below_entW,below_map,this,decide_true];rfl
  · have:(1:Nat)<m:=by have:(4:Nat)≤m:=hm;omega
    simp only [sK,List.all_cons,List.all_nil,obj_below,obj_belowM,obj_belowA,below_entW,below_map,this,decide_true];rfl
  · have hum:=List.mem_of_getElem? ha
    have hut:=post_TOk ht u hum
    have huc:=post_count u hum
    have hul:=Term.counts_len u.args
    have huq:=Term.count_eq u
    have hn:=s_term_node u hut (by omega)
    refine ⟨fun _ _=>trivial,?_⟩
    simp only [sK,List.cons_append,List.nil_append]
    rw [round_go rfl ⟨rfl,rfl,rfl⟩]
    unfold ckF
    rcases Classical.propComplete (nodeN u=0) with h0 | h0
    rotate_left
    · simp only [h0,if_false,A0_term_Check,B0_term_Check]
      simp (disch:=omega) only [eqZ,↓gc_len,seval,-List.reduceReplicate,reduceCtorEq,allP,q_term_node,hn,h0,below_entW,st_c0,gc_66]
    rcases Classical.propComplete (u.op=1) with h1 | h1
    rotate_left
    · simp only [h0,h1,if_true,if_false,A0_term_Check,B0_term_Check]
      simp (disch:=omega) only [eqZ,↓gc_len,seval,-List.reduceReplicate,reduceCtorEq,allP,q_term_node,hn,h0,h1,below_entW,gc_66]
    have hfk:=find_entW u.name s.2
    have hsk:=set_entW u.name u.w s.2
    simp only [h0,h1,if_true]
    obtain ⟨c,m⟩:=s
    unfold ckB
    cases hl:lkW m u.name with
    | none=>
      rw [hl] at hfk
      have hlk:=fun r a=>look_none (r:=r) (a:=a) (z:=.p (.int .i64 0)) (kl:=.str) (k:=.str u.name) rfl hfk
      simp only [A0_term_Check,B0_term_Check]
      cases c<;>simp (disch:=omega) only [eqZ,↓gc_len,seval,-List.reduceReplicate,reduceCtorEq,allP,q_term_node,hn,h0,h1,below_entW,hlk,v_mupd_m rfl hsk,st_c3,ld_c3,st_c0,gc_66,Bool.true_or,Bool.false_or,Bool.or_false]
    | some o=>
      rw [hl] at hfk
      have hlk:=fun r a=>look_some (r:=r) (a:=a) (z:=.p (.int .i64 0)) (kl:=.str) (k:=.str u.name) rfl hfk
      simp only [A0_term_Check,B0_term_Check]
      rcases Classical.propComplete (o=u.w) with h2 | h2<;>cases c<;>simp (disch:=omega) only [eqZ,↓gc_len,seval,-List.reduceReplicate,reduceCtorEq,allP,q_term_node,hn,h0,h1,below_entW,hlk,v_mupd_m rfl hsk,st_c3,ld_c3,gc_66,h2,Bool.true_or,Bool.false_or,Bool.or_false]
def ckE (t:Term):Int:=match foldE ckF 0 (false,[]) t.post with
  | .inl s=>if s.1=true then 12 else 0
  | .inr e=>e
def checkT (t:Term):Int:=if (t.deep:Int)≤64∧(t.count:Int)≤4096 then ckE t else 7
set_option maxHeartbeats 4000000 in
theorem s_term_Check (t:Term) (ht:TOk t) (hc:t.count≤1000000):R P f_term_Check [.agg t.row]=some (.int .i64 (checkT t)):=by
  have hm:=s_term_measure t ht 4096 64 (by omega) (by omega)
  unfold checkT
  unfold measV at hm
  by_cases h1:(t.deep:Int)≤64∧(t.count:Int)≤4096
  rotate_left
  · rw [if_neg h1] at hm
    rw [if_neg h1]
    (rw [r_term_Check (lbY rfl),F_term_Check];simp (disch:=omega) only [eqZ,↓gc_len,seval,-List.reduceReplicate,reduceCtorEq,allP,q_term_measure,hm,st_c0,ld_ci])
  rw [if_pos h1] at hm
  rw [if_pos h1]
  have hr:=rg_term_Check t ht hc
  have hA:=s_term_All t
  have hx:∀ (l:List Term) (i:Nat) (s:Bool×Seen),(foldE (fun i s u=>match ckF i s u with | .inl s'=>.inl s' | .inr e=>.inr (e,s)) i s l:(Bool×Seen) ⊕ (Int×(Bool×Seen)))=match foldE ckF i s l with
      | .inl s'=>.inl s'
      | .inr e=>match (foldE (fun i s u=>match ckF i s u with | .inl s'=>.inl s' | .inr e=>.inr (e,s)) i s l:(Bool×Seen) ⊕ (Int×(Bool×Seen))) with | .inl s'=>.inl s' | .inr x=>.inr (e,x.2):=by
    intro l
    induction l with
    | nil=>intro i s;rfl
    | cons a l ih=>
      intro i s
      simp only [foldE]
      cases ckF i s a with
      | inl s'=>exact ih _ _
      | inr e=>rfl
  unfold ckE
  rw [hx] at hr
  simp only [sK,List.map_nil] at hr
  cases hf:foldE ckF 0 (false,[]) t.post with
  | inl s=>
    rw [hf] at hr
    obtain ⟨c,m⟩:=s
    cases c<;>(rw [r_term_Check (lbY rfl),F_term_Check];simp (disch:=omega) only [eqZ,↓gc_len,seval,-List.reduceReplicate,reduceCtorEq,allP,q_term_measure,hm,q_term_All,hA,kR0_term_Check,hr,ld_c3,ld_ci,st_c0,cells_b,init_n1])
  | inr e=>
    rw [hf] at hr
    cases hg:(foldE (fun i s u=>match ckF i s u with | .inl s'=>.inl s' | .inr e=>.inr (e,s)) 0 (false,[]) t.post:(Bool×Seen) ⊕ (Int×(Bool×Seen))) with
    | inl s'=>
      exfalso
      have:=hx t.post 0 (false,[])
      have key:∀ (l:List Term) (i:Nat) (s s':Bool×Seen),(foldE (fun i s u=>match ckF i s u with | .inl s'=>.inl s' | .inr e=>.inr (e,s)) i s l:(Bool×Seen) ⊕ (Int×(Bool×Seen)))=.inl s'→foldE ckF i s l=.inl s':=by
        intro l
        induction l with
        | nil=>intro i s s' h;exact congrArg _ (Sum.inl.inj h)
        | cons a l ih=>
          intro i s s' h
          simp only [foldE] at h ⊢
          cases hc:ckF i s a with
          | inl s1=>rw [hc] at h;exact ih _ _ _ h
          | inr e=>rw [hc] at h;cases h
      rw [key _ _ _ _ hg] at hf
      cases hf
    | inr x=>
      rw [hg] at hr
      obtain ⟨e2,c,m⟩:=x
      (rw [r_term_Check (lbY rfl),F_term_Check];simp (disch:=omega) only [eqZ,↓gc_len,seval,-List.reduceReplicate,reduceCtorEq,allP,q_term_measure,hm,q_term_All,hA,kR0_term_Check,hr,ld_c3,ld_ci,st_c0,cells_b,init_n1])
theorem firstN_append:∀ l m:List Term,firstN (l++m)=if firstN l=0 then firstN m else firstN l
  | [],m=>rfl
  | a :: l,m=>by
    simp only [List.cons_append,firstN]
    by_cases h:nodeN a=0
    · simp only [h,if_true];exact firstN_append l m
    · simp only [h,if_false]
abbrev e_nd6 (t:Term) (i:Int):List (Nat×AV):=[(1,.p (.ptr t.row 0)),(3,.p (.int .i64 i))]
theorem fold_nd6:∀ (l:List Term) (i:Nat),doneP (fun _=>firstN (Term.posts l)=0) (fun e=>firstN (Term.posts l)=e∧e≠0) (foldE (S:=Unit) (T:=Int) (fun _ _ a=>if firstN a.post=0 then .inl () else .inr (firstN a.post)) i () l)
  | [],i=>rfl
  | a :: l,i=>by
    simp only [foldE,Term.posts,firstN_append]
    by_cases h:firstN a.post=0
    · simp only [h,if_true];exact fold_nd6 l (i+1)
    · simp only [h,if_false];exact ⟨rfl,h⟩
theorem s_r06_nodes (t:Term):TOk t→t.count≤1000000→R P f_r06_nodes [.agg t.row]=some (.int .i64 (firstN t.post)):=by
  induction t using Term.ind with
  | h t ih=>
  intro ht hc
  have hlen:=Term.counts_len t.args
  have hct:=Term.count_eq t
  have h:=loop_to (P:=P) (nt:=23) (lv:=[1,3]) (b:=B0_r06_nodes) (rd:=none) (as:=t.args) (fun i (_:Unit)=>e_nd6 t i) (fun _=>[]) (fun _ _ a=>if firstN a.post=0 then .inl () else .inr (firstN a.post)) (fun e=>ret1 2 (.int .i64 e) []) (fun _ _=>True)
    (fun i a s ha hi hs=>by
      refine ⟨fun _ _=>trivial,?_⟩
      have hm:=List.mem_of_getElem? ha
      have hac:=Term.counts_mem hm
      have hr:=ih a hm (ht.args hm) (by omega)
      have hlt:((i:Int)<t.args.length)=True:=by simpa using hi
      by_cases hf:firstN a.post=0
      · simp only [B0_r06_nodes]
        simp (disch:=omega) only [eqZ,↓gc_len,seval,-List.reduceReplicate,reduceCtorEq,allP,hlt,List.length_map,v_iadr (map_get (f:=Term.row) ha) a.row_len,q_r06_nodes,hr,eq_true hf,e_nd6]
      · simp only [B0_r06_nodes]
        simp (disch:=omega) only [eqZ,↓gc_len,seval,-List.reduceReplicate,reduceCtorEq,allP,hlt,List.length_map,v_iadr (map_get (f:=Term.row) ha) a.row_len,q_r06_nodes,hr,hf,ret1,e_nd6]) (fun i s=>rfl) () trivial
  have hn:=s_r06_Node t ht (by omega)
  have hf:=fold_nd6 t.args 0
  rw [Term.post_eq,firstN_append]
  simp only [firstN]
  cases hfe:foldE (S:=Unit) (T:=Int) (fun _ _ a=>if firstN a.post=0 then .inl () else .inr (firstN a.post)) 0 () t.args with
  | inl s=>
    rw [hfe] at h hf
    obtain ⟨_,h⟩:=h
    have h':loopAt P L0_r06_nodes (e_nd6 t 0) [] 23 none=_:=h
    simp only [e_nd6] at h'
    have hf':firstN (Term.posts t.args)=0:=hf
    rw [hf']
    (rw [r_r06_nodes (lbY rfl),F_r06_nodes];simp (disch:=omega) only [eqZ,↓gc_len,seval,-List.reduceReplicate,reduceCtorEq,allP,List.length_map,k0_r06_nodes,h',B0_r06_nodes,Int.lt_irrefl,q_r06_Node,hn])
    by_cases h0:nodeN t=0<;>simp [h0]
  | inr e=>
    rw [hfe] at h hf
    obtain ⟨⟨e',τ',σ',nt',rd'⟩,g1,g2,g3,g4⟩:=h
    simp only at g2 g3 g4
    subst g2;subst g4
    have h':loopAt P L0_r06_nodes (e_nd6 t 0) [] 23 none=some (.ret,⟨τ',[],nt',rd'⟩):=g1
    simp only [e_nd6] at h'
    have hf':firstN (Term.posts t.args)=e∧e≠0:=hf
    rw [hf'.1,if_neg hf'.2]
    (rw [r_r06_nodes (lbY rfl),F_r06_nodes];simp (disch:=omega) only [eqZ,↓gc_len,seval,-List.reduceReplicate,reduceCtorEq,allP,List.length_map,k0_r06_nodes,h',g3])
def cfl (a b:Term):Bool:=decide (a.op=1∧b.op=1∧a.name=b.name∧¬ a.w=b.w)
abbrev e_c1 (l:List Term) (i k:Int):List (Nat×AV):=[(4,.p (.lst (l.map Term.row))),(5,.p (.int .i64 i)),(6,.p (.int .i64 k))]
abbrev e_c0 (l:List Term) (i:Int):List (Nat×AV):=[(4,.p (.lst (l.map Term.row))),(5,.p (.int .i64 i))]
set_option maxHeartbeats 4000000 in
theorem l1_r06_Check (l:List Term) (i:Nat) (u:Term) (hu:l[i]? = some u) (hl:l.length≤1000000):doneP (fun (_:Unit)=>True∧loopAt P L1_r06_Check (e_c1 l i 0) [] 68 none=back P [4,5,6] B1_r06_Check 0 (exec P B1_r06_Check ⟨tm (e_c1 l i i),[],68,none⟩))
    (fun (_:Unit)=>∃ r,loopAt P L1_r06_Check (e_c1 l i 0) [] 68 none=some r∧ret1 2 (.int .i64 12) [] r) (foldE (S:=Unit) (T:=Unit) (fun _ _ b=>if cfl u b=true then .inr () else .inl ()) 0 () (l.take i)):=by
  have hil:=(List.getElem?_eq_some_iff.1 hu).1
  have htl:(l.take i).length=i:=by rw [List.length_take];omega
  have h:=loop_to (P:=P) (nt:=68) (lv:=[4,5,6]) (b:=B1_r06_Check) (rd:=none) (as:=l.take i) (fun k (_:Unit)=>e_c1 l i k) (fun _=>[]) (fun _ _ b=>if cfl u b=true then .inr () else .inl ()) (fun (_:Unit)=>ret1 2 (.int .i64 12) []) (fun _ _=>True)
    (fun k b s hb hk hs=>by
      refine ⟨fun _ _=>trivial,?_⟩
      rw [htl] at hk
      have hlt:((k:Int)<i)=True:=by simpa using hk
      rw [List.getElem?_take] at hb
      rw [if_pos hk] at hb
      have hui:=fun σ=>v_iadr (k:=.i64) (es:=5) (σ:=σ) (map_get (f:=Term.row) hu) u.row_len
      have hbi:=fun σ=>v_iadr (k:=.i64) (es:=5) (σ:=σ) (map_get (f:=Term.row) hb) b.row_len
      unfold cfl
      rcases Classical.propComplete (u.op=1) with h1 | h1
      rotate_left
      · simp only [B1_r06_Check,h1]
        simp (disch:=omega) only [eqZ,↓gc_len,seval,-List.reduceReplicate,reduceCtorEq,allP,hlt,hui,hbi,h1,e_c1]
      rcases Classical.propComplete (b.op=1) with h2 | h2
      rotate_left
      · simp only [B1_r06_Check,h1,h2]
        simp (disch:=omega) only [eqZ,↓gc_len,seval,-List.reduceReplicate,reduceCtorEq,allP,hlt,hui,hbi,h1,h2,e_c1]
      rcases Classical.propComplete (u.name=b.name) with h3 | h3
      rotate_left
      · simp only [B1_r06_Check,h1,h2,h3]
        simp (disch:=omega) only [eqZ,↓gc_len,seval,-List.reduceReplicate,reduceCtorEq,allP,hlt,hui,hbi,h1,h2,h3,e_c1]
      rcases Classical.propComplete (u.w=b.w) with h4 | h4
      · simp only [B1_r06_Check,h1,h2,h3,h4]
        simp (disch:=omega) only [eqZ,↓gc_len,seval,-List.reduceReplicate,reduceCtorEq,allP,hlt,hui,hbi,h1,h2,h3,h4,e_c1]
      · simp only [B1_r06_Check,h1,h2,h3,h4]
        simp (disch:=omega) only [eqZ,↓gc_len,seval,-List.reduceReplicate,reduceCtorEq,allP,hlt,hui,hbi,h1,h2,h3,h4,e_c1,ret1]) (fun i s=>rfl) () trivial
  rw [htl] at h
  exact h
def outG (p:List Term):List Term→Bool
  | []=>false
  | u :: r=>p.any (cfl u) || outG (p++[u]) r
theorem fold_outG (l:List Term):∀ (r p:List Term),l=p++r→foldE (S:=Unit) (T:=Unit) (fun i _ u=>if (l.take i).any (cfl u)=true then .inr () else .inl ()) p.length () r=if outG p r=true then .inr () else .inl ()
  | [],p,h=>rfl
  | u :: r,p,h=>by
    have ht:l.take p.length=p:=by rw [h];simp
    by_cases hp:p.any (cfl u)=true
    · have ho:outG p (u :: r)=true:=by simp only [outG,hp,Bool.true_or]
      rw [if_pos ho]
      simp only [foldE,ht,hp,if_true]
    · have ho:outG p (u :: r)=outG (p++[u]) r:=by simp only [outG,Bool.eq_false_iff.2 hp,Bool.false_or]
      rw [ho]
      have ih:=fold_outG l r (p++[u]) (by rw [h];simp)
      rw [List.length_append] at ih
      simp only [foldE,ht,hp]
      exact ih
set_option maxHeartbeats 4000000 in
theorem l0_r06_Check (l:List Term) (hl:l.length≤1000000):doneP (fun (_:Unit)=>True∧loopAt P L0_r06_Check (e_c0 l 0) [] 68 none=back P [4,5] B0_r06_Check 0 (exec P B0_r06_Check ⟨tm (e_c0 l l.length),[],68,none⟩))
    (fun (_:Unit)=>∃ r,loopAt P L0_r06_Check (e_c0 l 0) [] 68 none=some r∧ret1 2 (.int .i64 12) [] r) (if outG [] l=true then .inr () else .inl ()):=by
  have h:=loop_to (P:=P) (nt:=68) (lv:=[4,5]) (b:=B0_r06_Check) (rd:=none) (as:=l) (fun k (_:Unit)=>e_c0 l k) (fun _=>[]) (fun i _ u=>if (l.take i).any (cfl u)=true then .inr () else .inl ()) (fun (_:Unit)=>ret1 2 (.int .i64 12) []) (fun _ _=>True)
    (fun k b s hb hk hs=>by
      refine ⟨fun _ _=>trivial,?_⟩
      have hlt:((k:Int)<l.length)=True:=by simpa using hk
      have hi:=l1_r06_Check l k b hb hl
      rw [fold_anyG] at hi
      cases ha:(l.take k).any (cfl b) with
      | true=>
        rw [ha] at hi
        obtain ⟨⟨e',τ',σ',nt',rd'⟩,g1,g2,g3,g4⟩:=hi
        simp only at g2 g3 g4
        subst g2;subst g4
        simp only [e_c1] at g1
        simp only [B0_r06_Check,if_true]
        simp (disch:=omega) only [eqZ,↓gc_len,seval,-List.reduceReplicate,reduceCtorEq,allP,hlt,List.length_map,e_c0,k1_r06_Check,g1,g3,ret1]
      | false=>
        rw [ha] at hi
        obtain ⟨_,g1⟩:=hi
        simp only [e_c1] at g1
        simp only [B0_r06_Check,Bool.false_eq_true,if_false]
        simp (disch:=omega) only [eqZ,↓gc_len,seval,-List.reduceReplicate,reduceCtorEq,allP,hlt,List.length_map,e_c0,k1_r06_Check,g1,B1_r06_Check,Int.lt_irrefl]) (fun i s=>rfl) () trivial
  have hf:=fold_outG l l [] rfl
  rw [List.length_nil] at hf
  rw [hf] at h
  exact h
def InvW (p:List Term) (m:Seen):Prop:=(∀ k w,lkW m k=some w→∃ b∈p,b.op=1∧b.name=k∧b.w=w)∧∀ b∈p,b.op=1→lkW m b.name=some b.w
theorem lk_stW (k:ByteArray) (w:Int) (k':ByteArray):∀ m:Seen,lkW (stW k w m) k'=if k'=k then some w else lkW m k'
  | []=>by simp [stW,lkW]
  | e :: r=>by
    simp only [stW]
    by_cases h:k=e.1
    · simp only [h,if_true,lkW]
      by_cases h2:k'=e.1<;>simp [h2]
    · simp only [h,if_false,lkW]
      rw [lk_stW k w k' r]
      by_cases h2:k'=e.1
      · have:¬ k'=k:=fun e'=>h (by rw [← e',h2])
        simp [h2,this]
        intro e';exact absurd e'.symm h
      · simp [h2]
theorem inv_any {p:List Term} {m:Seen} (h:InvW p m) {u:Term} (hu:u.op=1):p.any (cfl u)=ckB m u:=by
  unfold ckB
  cases hl:lkW m u.name with
  | none=>
    rw [List.any_eq_false]
    intro b hb
    unfold cfl
    simp only [decide_eq_true_eq]
    rintro ⟨_,h2,h3,_⟩
    have:=h.2 b hb h2
    rw [← h3,hl] at this
    cases this
  | some w=>
    simp only
    by_cases hw:w=u.w
    · rw [decide_eq_false (fun h=>h hw),List.any_eq_false]
      intro b hb
      unfold cfl
      simp only [decide_eq_true_eq]
      rintro ⟨_,h2,h3,h4⟩
      have:=h.2 b hb h2
      rw [← h3,hl,Option.some.injEq] at this
      exact h4 (by rw [← this,hw])
    · rw [decide_eq_true hw,List.any_eq_true]
      obtain ⟨b,hb,h1,h2,h3⟩:=h.1 _ _ hl
      refine ⟨b,hb,?_⟩
      unfold cfl
      exact decide_eq_true ⟨hu,h1,h2.symm,by rw [h3];exact fun e=>hw e.symm⟩
theorem any_nop {p:List Term} {u:Term} (hu:¬ u.op=1):p.any (cfl u)=false:=by
  rw [List.any_eq_false]
  intro b _
  unfold cfl
  simp [hu]
theorem ck_true:∀ (r:List Term) (i:Nat) (m:Seen),(∀ u∈r,nodeN u=0)→∃ m',foldE ckF i (true,m) r=.inl (true,m')
  | [],i,m,_=>⟨m,rfl⟩
  | u :: r,i,m,h=>by
    have hr:∀ v∈r,nodeN v=0:=fun v hv=>h v (by simp [hv])
    by_cases hu:u.op=1
    · have hk:ckF i (true,m) u=.inl (true,stW u.name u.w m):=by
        unfold ckF;rw [if_pos (h u (by simp)),if_pos hu];simp
      simp only [foldE,hk]
      exact ck_true r (i+1) _ hr
    · have hk:ckF i (true,m) u=.inl (true,m):=by
        unfold ckF;rw [if_pos (h u (by simp)),if_neg hu]
      simp only [foldE,hk]
      exact ck_true r (i+1) _ hr
theorem ck_out:∀ (r p:List Term) (i:Nat) (m:Seen),(∀ u∈r,nodeN u=0)→InvW p m→∃ m',foldE ckF i (false,m) r=.inl (outG p r,m')
  | [],p,i,m,_,_=>⟨m,rfl⟩
  | u :: r,p,i,m,h,hi=>by
    have hr:∀ v∈r,nodeN v=0:=fun v hv=>h v (by simp [hv])
    by_cases hu:u.op=1
    · have hk:ckF i (false,m) u=.inl (ckB m u,stW u.name u.w m):=by
        unfold ckF;rw [if_pos (h u (by simp)),if_pos hu];simp
      simp only [foldE,outG,hk]
      rw [inv_any hi hu]
      cases hc:ckB m u with
      | true=>obtain ⟨m',hm⟩:=ck_true r (i+1) (stW u.name u.w m) hr;exact ⟨m',by simpa using hm⟩
      | false=>
        simp only [Bool.false_or]
        refine ck_out r (p++[u]) (i+1) _ hr ⟨fun k w hk=>?_,fun b hb hb1=>?_⟩
        · rw [lk_stW] at hk
          split at hk
          · rename_i e
            cases hk
            exact ⟨u,by simp,hu,e.symm,rfl⟩
          · obtain ⟨b,hb,h1⟩:=hi.1 _ _ hk
            exact ⟨b,by simp [hb],h1⟩
        · rw [lk_stW]
          rcases List.mem_append.1 hb with hb | hb
          · split
            · rename_i e
              have h2:=hi.2 b hb hb1
              unfold ckB at hc
              rw [← e,h2] at hc
              simp only [decide_eq_false_iff_not,Classical.not_not] at hc
              rw [hc]
            · exact hi.2 b hb hb1
          · rw [List.mem_singleton] at hb
            subst hb
            simp
    · have hk:ckF i (false,m) u=.inl (false,m):=by
        unfold ckF;rw [if_pos (h u (by simp)),if_neg hu]
      simp only [foldE,outG,hk]
      rw [any_nop hu]
      simp only [Bool.false_or]
      refine ck_out r (p++[u]) (i+1) _ hr ⟨fun k w hk=>?_,fun b hb hb1=>?_⟩
      · obtain ⟨b,hb,h1⟩:=hi.1 _ _ hk
        exact ⟨b,by simp [hb],h1⟩
      · rcases List.mem_append.1 hb with hb | hb
        · exact hi.2 b hb hb1
        · rw [List.mem_singleton] at hb
          subst hb
          exact absurd hb1 hu
theorem ck_err:∀ (r:List Term) (i:Nat) (s:Bool×Seen),¬ firstN r=0→foldE ckF i s r=.inr (firstN r)
  | [],i,s,h=>absurd rfl h
  | u :: r,i,s,h=>by
    simp only [firstN] at h ⊢
    by_cases h0:nodeN u=0
    · rw [if_pos h0] at h ⊢
      have hk:∃ s',ckF i s u=.inl s':=by
        unfold ckF;rw [if_pos h0]
        by_cases hu:u.op=1
        · rw [if_pos hu];exact ⟨_,rfl⟩
        · rw [if_neg hu];exact ⟨_,rfl⟩
      obtain ⟨s',hk⟩:=hk
      simp only [foldE,hk]
      exact ck_err r (i+1) _ h
    · rw [if_neg h0]
      have hk:ckF i s u=.inr (nodeN u):=by unfold ckF;rw [if_neg h0]
      simp only [foldE,hk]
theorem firstN_zero:∀ {l:List Term},firstN l=0→∀ u∈l,nodeN u=0
  | [],_,u,hu=>by simp at hu
  | a :: l,h,u,hu=>by
    simp only [firstN] at h
    split at h
    · rename_i h0
      rcases List.mem_cons.1 hu with rfl | hu
      · exact h0
      · exact firstN_zero h u hu
    · rename_i h0;exact absurd h h0
theorem ckE_eq (t:Term):ckE t=if ¬ firstN t.post=0 then firstN t.post else if outG [] t.post=true then 12 else 0:=by
  unfold ckE
  by_cases h:firstN t.post=0
  · rw [if_neg (fun h'=>h' h)]
    obtain ⟨m',hm⟩:=ck_out t.post [] 0 [] (firstN_zero h) ⟨fun k w hk=>by simp [lkW] at hk,fun b hb=>by simp at hb⟩
    rw [hm]
  · rw [if_pos h,ck_err _ _ _ h]
theorem s_r06_Check (t:Term) (ht:TOk t) (hc:t.count≤1000000):R P f_r06_Check [.agg t.row]=some (.int .i64 (checkT t)):=by
  have h1:=s_r06_count t ht 64 4096 (by omega) (by omega)
  have h2:=s_r06_nodes t ht hc
  have h3:=s_r06_Post t hc
  unfold checkT
  by_cases g1:(t.deep:Int)≤64∧(t.count:Int)≤4096
  rotate_left
  · have e:(cntV t 64 4096<0)=True:=by unfold cntV;rw [if_neg g1];simp
    rw [if_neg g1]
    (rw [r_r06_Check (lbY rfl),F_r06_Check];simp (disch:=omega) only [eqZ,↓gc_len,seval,-List.reduceReplicate,reduceCtorEq,allP,q_r06_count,h1,e])
  have e:(cntV t 64 4096<0)=False:=by unfold cntV;rw [if_pos g1];simp;omega
  rw [if_pos g1,ckE_eq]
  rcases Classical.propComplete (firstN t.post=0) with g2 | g2
  rotate_left
  · (rw [r_r06_Check (lbY rfl),F_r06_Check];simp (disch:=omega) only [eqZ,↓gc_len,seval,-List.reduceReplicate,reduceCtorEq,allP,q_r06_count,h1,e,q_r06_nodes,h2,g2])
  have hl:=l0_r06_Check t.post (by rw [Term.post_len];exact hc)
  cases ho:outG [] t.post with
  | true=>
    rw [ho] at hl
    obtain ⟨⟨e',τ',σ',nt',rd'⟩,k1,k2,k3,k4⟩:=hl
    simp only at k2 k3 k4
    subst k2;subst k4
    simp only [e_c0] at k1
    (rw [r_r06_Check (lbY rfl),F_r06_Check];simp (disch:=omega) only [eqZ,↓gc_len,seval,-List.reduceReplicate,reduceCtorEq,allP,q_r06_count,h1,e,q_r06_nodes,h2,g2,q_r06_Post,h3,k0_r06_Check,k1,k3])
  | false=>
    rw [ho] at hl
    obtain ⟨_,k1⟩:=hl
    simp only [e_c0] at k1
    (rw [r_r06_Check (lbY rfl),F_r06_Check];simp (disch:=omega) only [eqZ,↓gc_len,seval,-List.reduceReplicate,reduceCtorEq,allP,q_r06_count,h1,e,q_r06_nodes,h2,g2,q_r06_Post,h3,k0_r06_Check,k1,B0_r06_Check,Int.lt_irrefl,List.length_map])
end Go.AE.S
