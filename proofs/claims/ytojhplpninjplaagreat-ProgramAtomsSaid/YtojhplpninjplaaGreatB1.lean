import Derived.Test.YtojhplpninjplaaGreatB0
import Derived.Test.YtojhplpninjplaaGreatP0
namespace Go.AE.S
open Go Go.AE
set_option linter.unusedSimpArgs false
set_option linter.unusedVariables false
variable {τ:Tm} {σ:Store} {rd:Option Nat}
def argT (u:Term):List AV:=[.p (.agg u.row)]
def visF (l:Nat) (s:Store) (a:Term):Store ⊕ Store:=match rounds P l (a.pre.map argT) s with
  | some (true,s')=>.inl s'
  | some (false,s')=>.inr s'
  | none=>.inr s
theorem fold_vis (l:Nat):∀ (as:List Term) (i:Nat) (s:Store) (b:Bool) (s':Store),rounds P l ((Term.pres as).map argT) s=some (b,s')→foldE (fun _ s a=>visF l s a) i s as=if b=true then .inl s' else .inr s'
  | [],i,s,b,s',h=>by
    simp only [Term.pres,List.map_nil,rounds,Option.some.injEq,Prod.mk.injEq] at h
    obtain ⟨rfl,rfl⟩:=h
    rfl
  | a :: as,i,s,b,s',h=>by
    simp only [Term.pres,List.map_append,rounds_append] at h
    simp only [foldE,visF]
    cases h1:rounds P l (a.pre.map argT) s with
    | none=>rw [h1] at h;cases h
    | some x=>
      obtain ⟨c,s1⟩:=x
      rw [h1] at h
      cases c with
      | true=>exact fold_vis l as (i+1) s1 b s' h
      | false=>
        simp only [roundsThen,Option.some.injEq,Prod.mk.injEq] at h
        obtain ⟨rfl,rfl⟩:=h
        rfl
abbrev e_vis (l:Nat) (t:Term) (i:Int):List (Nat×AV):=[(1,.yield l),(12,.p (.lst (t.args.map Term.row))),(13,.p (.int .i64 t.args.length)),(14,.p (.int .i64 i))]
theorem c_visit (l:Nat) (t:Term):t.count≤1000000→∀ (σ σ':Store) (b:Bool),rounds P l (t.pre.map argT) σ=some (b,σ')→call P F_pattern_visit [.p (.agg t.row),.yield l] σ=some (.p (.bool b),σ'):=by
  induction t using Term.ind with
  | h t ih=>
  intro hc σ σ' b hr
  have hlen:=Term.counts_len t.args
  have hct:=Term.count_eq t
  have hl:=rounds_len _ _ _ _ hr
  rw [Term.pre_eq,List.map_cons] at hr
  obtain ⟨c,σ1,h1,h2,h3,h4⟩:=rounds_cons hr
  simp only [argT] at h1
  have gc1:∀ vs,gc σ.length vs σ1=σ1:=fun vs=>gc_same' (by omega)
  cases c with
  | false=>
    obtain ⟨rfl,rfl⟩:=h4 rfl
    (rw [call_go (lbY rfl),F_pattern_visit];simp (disch:=omega) only [eqY,↓gc_len,seval,-List.reduceReplicate,reduceCtorEq,allP,h1,gc1])
  | true=>
    have h3:=h3 rfl
    have h:=loop_foldE (P:=P) (nt:=23) (rd:=none) (lv:=[1,12,13,14]) (b:=B0_pattern_visit) (x:=0) (as:=t.args) (fun i (_:Store)=>e_vis l t i) (fun s=>s) (fun _ s a=>visF l s a)
      (fun s=>⟨upd (tm (e_vis l t t.args.length)) 15 (.p (.bool false)),s,23,none⟩) (fun s r=>ret1 4 (.bool false) s r) (fun i s=>∃ b s',rounds P l ((Term.pres (t.args.drop i)).map argT) s=some (b,s'))
      (fun i a s ha hi hs=>by
        obtain ⟨b2,s2,hs⟩:=hs
        have hm:=List.mem_of_getElem? ha
        have hac:=Term.counts_mem hm
        have hlt:((i:Int)<t.args.length)=True:=by simpa using hi
        have hd:t.args.drop i=a :: t.args.drop (i+1):=by rw [List.drop_eq_getElem_cons hi];rw [List.getElem?_eq_getElem hi] at ha;cases ha;rfl
        rw [hd] at hs
        simp only [Term.pres,List.map_append,rounds_append] at hs
        cases hx:rounds P l (a.pre.map argT) s with
        | none=>rw [hx] at hs;cases hs
        | some x=>
          obtain ⟨c,s1⟩:=x
          rw [hx] at hs
          have hv:=ih a hm (by omega) s s1 c hx
          have hl1:=rounds_len _ _ _ _ hx
          have gc2:∀ vs,gc s.length vs s1=s1:=fun vs=>gc_same' (by omega)
          cases c with
          | true=>
            refine ⟨fun s' he=>?_,?_⟩
            · simp only [visF,hx] at he
              cases he
              exact ⟨_,_,hs⟩
            · simp only [B0_pattern_visit,visF,hx]
              simp (disch:=omega) only [eqY,↓gc_len,seval,-List.reduceReplicate,reduceCtorEq,allP,hlt,v_iadr (map_get (f:=Term.row) ha) a.row_len,q_pattern_visit,hv,gc2]
          | false=>
            refine ⟨fun s' he=>?_,?_⟩
            · simp only [visF,hx] at he
              cases he
            · simp only [B0_pattern_visit,visF,hx]
              simp (disch:=omega) only [eqY,↓gc_len,seval,-List.reduceReplicate,reduceCtorEq,allP,hlt,v_iadr (map_get (f:=Term.row) ha) a.row_len,q_pattern_visit,hv,gc2,ret1]) (fun s hs=>by
        simp only [B0_pattern_visit]
        simp (disch:=omega) only [eqY,↓gc_len,seval,-List.reduceReplicate,reduceCtorEq,allP,Int.lt_irrefl]) (fun i s=>rfl) σ1 ⟨b,σ',h3⟩
    rw [fold_vis l t.args 0 σ1 b σ' h3] at h
    have hl3:=rounds_len _ _ _ _ h3
    have gc3:∀ vs,gc σ.length vs σ'=σ':=fun vs=>gc_same' (by omega)
    cases b with
    | true=>
      have h':loopAt P L0_pattern_visit (e_vis l t 0) σ1 23 none=_:=h
      (rw [call_go (lbY rfl),F_pattern_visit];simp (disch:=omega) only [eqY,↓gc_len,seval,-List.reduceReplicate,reduceCtorEq,allP,h1,List.length_map,k0_pattern_visit,h',gc3])
    | false=>
      obtain ⟨⟨e,τ',σ2,nt',rd'⟩,g1,g2,g3,g4⟩:=h
      simp only at g2 g3 g4
      subst g2;subst g4
      have h':loopAt P L0_pattern_visit (e_vis l t 0) σ1 23 none=some (.ret,⟨τ',σ2,nt',rd'⟩):=g1
      (rw [call_go (lbY rfl),F_pattern_visit];simp (disch:=omega) only [eqY,↓gc_len,seval,-List.reduceReplicate,reduceCtorEq,allP,h1,List.length_map,k0_pattern_visit,h',g3,gc3])
theorem c_preorder (l:Nat) (t:Term) (hc:t.count≤1000000) (σ σ':Store) (b:Bool) (h:rounds P l (t.pre.map argT) σ=some (b,σ')) :
    call P F_pattern_preorder_1 [.yield l,.p (.ptr t.row 0)] σ=some (.p (.tup []),σ'):=by
  have hv:=c_visit l t hc σ σ' b h
  have hl:=rounds_len _ _ _ _ h
  have gc3:∀ vs,gc σ.length vs σ'=σ':=fun vs=>gc_same' (by omega)
  (rw [call_go (lbY rfl),F_pattern_preorder_1];simp (disch:=omega) only [eqY,↓gc_len,seval,-List.reduceReplicate,reduceCtorEq,allP,q_pattern_visit,hv,gc3])
theorem s_pattern_preorder (t:Term):R P f_pattern_preorder [.agg t.row]=some (.fn f_pattern_preorder_1 [.ptr t.row 0]):=by
  (rw [r_pattern_preorder (lbY rfl),F_pattern_preorder];simp (disch:=omega) only [eqY,↓gc_len,seval,-List.reduceReplicate,reduceCtorEq,allP,mkFn])
theorem fold_anyG {α:Type} (q:α→Bool):∀ (as:List α) (i:Nat),foldE (S:=Unit) (T:=Unit) (fun _ _ a=>if q a=true then .inr () else .inl ()) i () as=if as.any q=true then .inr () else .inl ()
  | [],i=>rfl
  | a :: as,i=>by
    cases h:q a<;>simp [foldE,h,fold_anyG q as]
theorem s_pattern_variable (o:Int):R P f_pattern_variable [.int .i64 o]=some (.bool (decide (o=24∨o=25))):=by
  (rw [r_pattern_variable (lbY rfl),F_pattern_variable];simp (disch:=omega) only [eqY,↓gc_len,seval,-List.reduceReplicate,reduceCtorEq,allP])
  by_cases h1:o=24<;>by_cases h2:o=25<;>simp (disch:=omega) only [eqY,↓gc_len,seval,-List.reduceReplicate,reduceCtorEq,allP,eq_true h1,eq_true h2,h1,h2]<;>first | rfl | simp_all
theorem s_r24_variable (t:Term):R P f_r24_variable [.agg t.row]=some (.bool (decide (t.op=24∨t.op=25))):=by
  (rw [r_r24_variable (lbY rfl),F_r24_variable];simp (disch:=omega) only [eqY,↓gc_len,seval,-List.reduceReplicate,reduceCtorEq,allP])
  by_cases h1:t.op=24<;>by_cases h2:t.op=25<;>simp (disch:=omega) only [eqY,↓gc_len,seval,-List.reduceReplicate,reduceCtorEq,allP,eq_true h1,eq_true h2,h1,h2]<;>first | rfl | simp_all
def idxE (x:Int):Nat→List Int→Int
  | _,[]=>-1
  | i,a :: r=>if x=a then i else idxE x (i+1) r
theorem idx_mem (x:Int):∀ (l:List Int) (i:Nat),0≤idxE x i l↔x∈l
  | [],i=>by simp [idxE]
  | a :: l,i=>by
    by_cases h:x=a
    · simp [idxE,h]
    · simp [idxE,h,idx_mem x l (i+1)]
theorem fold_idx (x:Int):∀ (l:List Int) (i:Nat),doneP (fun _=>idxE x i l = -1) (fun k=>idxE x i l=(k:Nat)) (foldE (S:=Unit) (T:=Nat) (fun i _ a=>if x=a then .inr i else .inl ()) i () l)
  | [],i=>rfl
  | a :: l,i=>by
    by_cases h:x=a
    · simp only [foldE,idxE,h,if_true];exact rfl
    · simp only [foldE,idxE,h,if_false];exact fold_idx x l (i+1)
abbrev e_Idx (l:List Int) (x i:Int):List (Nat×AV):=[(0,.p (.lst (l.map irow))),(1,.p (.int .i64 x)),(7,.p (.int .i64 l.length)),(8,.p (.int .i64 i))]
theorem s_Index_Op (l:List Int) (x:Int) (hl:l.length≤1000000):R P f_slices_Index_api_Op_api_Op [.lst (l.map irow),.int .i64 x]=some (.int .i64 (idxE x 0 l)):=by
  have h:=loop_foldE (P:=P) (nt:=19) (rd:=none) (lv:=[0,1,7,8]) (b:=B0_slices_Index_api_Op_api_Op) (x:=0) (as:=l) (fun i (_:Unit)=>e_Idx l x i) (fun _=>[]) (fun i _ a=>if x=a then .inr i else .inl ())
    (fun _=>⟨upd (tm (e_Idx l x l.length)) 9 (.p (.bool false)),[],19,none⟩) (fun (k:Nat)=>ret1 4 (.int .i64 k) []) (fun _ _=>True)
    (fun i a s ha hi hs=>by
      refine ⟨fun _ _=>trivial,?_⟩
      have hlt:((i:Int)<l.length)=True:=by simpa using hi
      by_cases hc:x=a<;>simp only [B0_slices_Index_api_Op_api_Op]<;>simp (disch:=omega) only [eqY,↓gc_len,seval,-List.reduceReplicate,reduceCtorEq,allP,hlt,v_iadr (es:=1) (map_get (f:=irow) ha) rfl,irow,eq_true hc,hc,ret1]) (fun s hs=>by
      simp only [B0_slices_Index_api_Op_api_Op]
      simp (disch:=omega) only [eqY,↓gc_len,seval,-List.reduceReplicate,reduceCtorEq,allP,Int.lt_irrefl]) (fun i s=>rfl) () trivial
  have hf:=fold_idx x l 0
  cases hfe:foldE (S:=Unit) (T:=Nat) (fun i _ a=>if x=a then .inr i else .inl ()) 0 () l with
  | inl s=>
    rw [hfe] at h hf
    have h':loopAt P L0_slices_Index_api_Op_api_Op (e_Idx l x 0) [] 19 none=_:=h
    have hf':idxE x 0 l = -1:=hf
    (rw [r_slices_Index_api_Op_api_Op (lbY rfl),F_slices_Index_api_Op_api_Op];simp (disch:=omega) only [eqY,↓gc_len,seval,-List.reduceReplicate,reduceCtorEq,allP,List.length_map,k0_slices_Index_api_Op_api_Op,h'])
    rw [hf']
  | inr k=>
    rw [hfe] at h hf
    obtain ⟨⟨e,τ',σ',nt',rd'⟩,g1,g2,g3,g4⟩:=h
    simp only at g2 g3 g4
    subst g2;subst g4
    have h':loopAt P L0_slices_Index_api_Op_api_Op (e_Idx l x 0) [] 19 none=some (.ret,⟨τ',[],nt',rd'⟩):=g1
    have hf':idxE x 0 l=k:=hf
    (rw [r_slices_Index_api_Op_api_Op (lbY rfl),F_slices_Index_api_Op_api_Op];simp (disch:=omega) only [eqY,↓gc_len,seval,-List.reduceReplicate,reduceCtorEq,allP,List.length_map,k0_slices_Index_api_Op_api_Op,h',g3])
    rw [hf']
theorem s_Contains_Op (l:List Int) (x:Int) (hl:l.length≤1000000):R P f_slices_Contains_api_Op_api_Op [.lst (l.map irow),.int .i64 x]=some (.bool (decide (x∈l))):=by
  (rw [r_slices_Contains_api_Op_api_Op (lbY rfl),F_slices_Contains_api_Op_api_Op];simp (disch:=omega) only [eqY,↓gc_len,seval,-List.reduceReplicate,reduceCtorEq,allP,q_slices_Index_api_Op_api_Op,s_Index_Op l x hl,idx_mem])
theorem range_pre {S T:Type} {kept:List (Nat×AV)} {ps:List Nat} {asg b:K} {nt:Nat} (t:Term) (hc:t.count≤1000000) (hps:nodup ps=true∧ps.all (· < nt)=true)
    (sto:S→Store) (f:Nat→S→Term→S ⊕ T) (out:T→Ex×Store) (ok:Nat→S→Prop) (s0:S) (hrd:aroundOk rd (sto s0)=true)
    (hlen:∀ s,(sto s).length=(sto s0).length) (hout:∀ t,(out t).2.length=(sto s0).length)
    (hbel:∀ s,(sto s).all (Obj.below (sto s0).length)=true) (hbelo:∀ t,(out t).2.all (Obj.below (sto s0).length)=true) (hnn:∀ t,(out t).1≠.normal)
    (hstep:∀ (i:Nat) (a:Term) (s:S),t.pre[i]? = some a→ok i s→(∀ s',f i s a=.inl s'→ok (i+1) s') ∧
      round P (sto s0).length [.p (.agg a.row)] (sto s++[.loop kept nt ps asg b none])=(match f i s a with
        | .inl s'=>some (.p (.bool true),sto s'++[.loop kept nt ps asg b none])
        | .inr t=>some (.p (.bool false),(out t).2++[.loop kept nt ps asg b (some (out t).1)])))
    (h0:ok 0 s0):rangeR P ps asg b (.p (.fn f_pattern_preorder_1 [.ptr t.row 0])) kept (sto s0) nt rd=some (rangeEnd sto out (foldE f 0 s0 t.pre)) :=
  range_fold (f0:=f_pattern_preorder_1) (cap:=[.p (.ptr t.row 0)]) rfl p_pattern_preorder_1 hps argT sto f out ok t.pre s0 hrd (fun σ σ' bb h=>⟨_,c_preorder _ t hc σ σ' bb h⟩) hlen hout hbel hbelo hnn hstep h0
theorem s_pattern_Generic (t:Term) (hc:t.count≤1000000):R P f_pattern_Generic [.agg t.row]=some (.bool (t.pre.any fun u=>decide (u.w=0))):=by
  have h:=range_pre (rd:=none) (kept:=[(2,.ptr 0 1 0 0)]) (ps:=[6]) (asg:=A0_pattern_Generic) (b:=B0_pattern_Generic) (nt:=10) t hc ⟨rfl,rfl⟩ (fun (_:Unit)=>[.pv 1 [[.bool false]] false]) (fun _ _ a=>if decide (a.w=0)=true then .inr () else .inl ()) (fun (_:Unit)=>(.ret,[.pv 1 [[.bool true]] false]))
    (fun _ _=>True) () rfl (fun _=>rfl) (fun _=>rfl) (fun _=>rfl) (fun _=>rfl) (fun _=>by simp) (fun i a s ha _=>by
      refine ⟨fun _ _=>trivial,?_⟩
      simp only [List.cons_append,List.nil_append]
      rw [round_go rfl ⟨rfl,rfl,rfl⟩]
      by_cases hw:a.w=0
      · simp only [A0_pattern_Generic,B0_pattern_Generic]
        simp (disch:=omega) only [eqY,↓gc_len,seval,-List.reduceReplicate,reduceCtorEq,allP,eq_true hw]
      · simp only [A0_pattern_Generic,B0_pattern_Generic]
        simp (disch:=omega) only [eqY,↓gc_len,seval,-List.reduceReplicate,reduceCtorEq,allP,hw]) trivial
  rw [fold_anyG] at h
  cases hq:t.pre.any fun u=>decide (u.w=0)<;>rw [hq] at h<;>(rw [r_pattern_Generic (lbY rfl),F_pattern_Generic];simp (disch:=omega) only [eqY,↓gc_len,seval,-List.reduceReplicate,reduceCtorEq,allP,kR0_pattern_Generic,q_pattern_preorder,s_pattern_preorder,h])
theorem s_pattern_has (t:Term) (l:List Int) (hc:t.count≤1000000) (hl:l.length≤1000000):R P f_pattern_has [.agg t.row,.lst (l.map irow)]=some (.bool (t.pre.any fun u=>decide (u.op∈l))):=by
  have h:=range_pre (rd:=none) (kept:=[(3,.p (.ptr [.lst (l.map irow)] 0)),(4,.ptr 0 1 0 0)]) (ps:=[8]) (asg:=A0_pattern_has) (b:=B0_pattern_has) (nt:=13) t hc ⟨rfl,rfl⟩ (fun (_:Unit)=>[.pv 1 [[.bool false]] false]) (fun _ _ a=>if decide (a.op∈l)=true then .inr () else .inl ()) (fun (_:Unit)=>(.ret,[.pv 1 [[.bool true]] false]))
    (fun _ _=>True) () rfl (fun _=>rfl) (fun _=>rfl) (fun _=>rfl) (fun _=>rfl) (fun _=>by simp) (fun i a s ha _=>by
      refine ⟨fun _ _=>trivial,?_⟩
      simp only [List.cons_append,List.nil_append]
      rw [round_go rfl ⟨rfl,rfl,rfl⟩]
      have hcn:=s_Contains_Op l a.op hl
      by_cases hw:a.op∈l
      · simp only [A0_pattern_has,B0_pattern_has]
        simp (disch:=omega) only [eqY,↓gc_len,seval,-List.reduceReplicate,reduceCtorEq,allP,eq_true hw,q_slices_Contains_api_Op_api_Op,hcn]
      · simp only [A0_pattern_has,B0_pattern_has]
        simp (disch:=omega) only [eqY,↓gc_len,seval,-List.reduceReplicate,reduceCtorEq,allP,hw,q_slices_Contains_api_Op_api_Op,hcn]) trivial
  rw [fold_anyG] at h
  cases hq:t.pre.any fun u=>decide (u.op∈l)<;>rw [hq] at h<;>(rw [r_pattern_has (lbY rfl),F_pattern_has];simp (disch:=omega) only [eqY,↓gc_len,seval,-List.reduceReplicate,reduceCtorEq,allP,kR0_pattern_has,q_pattern_preorder,s_pattern_preorder,h])
theorem s_pattern_Ground (t:Term) (hc:t.count≤1000000):R P f_pattern_Ground [.agg t.row]=some (.bool !(t.pre.any fun u=>decide (u.op∈[24,25,26]))):=by
  have h:=s_pattern_has t [24,25,26] hc (by decide)
  simp only [List.map_cons,List.map_nil,irow] at h
  (rw [r_pattern_Ground (lbY rfl),F_pattern_Ground];simp (disch:=omega) only [eqY,↓gc_len,seval,-List.reduceReplicate,reduceCtorEq,allP,q_pattern_has,h])
abbrev e_anyR (l:List Term) (i:Int):List (Nat×AV):=[(3,.p (.lst (l.map Term.row))),(4,.p (.int .i64 i))]
theorem s_r24_Generic (t:Term) (hc:t.count≤1000000):R P f_r24_Generic [.agg t.row]=some (.bool (t.pre.any fun u=>decide (u.w=0))):=by
  have hpl:=Term.pre_len t
  have h:=loop_foldE (P:=P) (nt:=19) (rd:=none) (lv:=[3,4]) (b:=B0_r24_Generic) (x:=0) (as:=t.pre) (fun i (_:Unit)=>e_anyR t.pre i) (fun _=>[]) (fun i _ a=>if decide (a.w=0)=true then .inr () else .inl ())
    (fun _=>⟨upd (upd (upd (upd (tm (e_anyR t.pre t.pre.length)) 7 (.p (.int .i64 t.pre.length))) 8 (.p (.lst (t.pre.map Term.row)))) 9 (.p (.int .i64 t.pre.length))) 10 (.p (.bool false)),[],19,none⟩) (fun _=>ret1 2 (.bool true) []) (fun _ _=>True)
    (fun i a s ha hi hs=>by
      refine ⟨fun _ _=>trivial,?_⟩
      have hlt:((i:Int)<t.pre.length)=True:=by simpa using hi
      by_cases hw:a.w=0<;>simp only [B0_r24_Generic]<;>simp (disch:=omega) only [eqY,↓gc_len,seval,-List.reduceReplicate,reduceCtorEq,allP,hlt,List.length_map,v_iadr (map_get (f:=Term.row) ha) a.row_len,eq_true hw,hw,ret1]) (fun s hs=>by
      simp only [B0_r24_Generic]
      simp (disch:=omega) only [eqY,↓gc_len,seval,-List.reduceReplicate,reduceCtorEq,allP,Int.lt_irrefl,List.length_map]) (fun i s=>rfl) () trivial
  rw [fold_anyG] at h
  have h2:=done_fi h
  have hp:=s_r24_Preorder t hc
  by_cases hq:(t.pre.any fun u=>decide (u.w=0))=true
  · rw [if_pos hq] at h2
    obtain ⟨⟨e,τ',σ',nt',rd'⟩,g1,g2,g3,g4⟩:=h2
    simp only at g2 g3 g4
    subst g2;subst g4
    have h':loopAt P L0_r24_Generic (e_anyR t.pre 0) [] 19 none=some (.ret,⟨τ',[],nt',rd'⟩):=g1
    (rw [r_r24_Generic (lbY rfl),F_r24_Generic];simp (disch:=omega) only [eqY,↓gc_len,seval,-List.reduceReplicate,reduceCtorEq,allP,q_r24_Preorder,hp,k0_r24_Generic,h',g3])
    rw [hq]
  · rw [if_neg hq] at h2
    have h':loopAt P L0_r24_Generic (e_anyR t.pre 0) [] 19 none=_:=h2
    (rw [r_r24_Generic (lbY rfl),F_r24_Generic];simp (disch:=omega) only [eqY,↓gc_len,seval,-List.reduceReplicate,reduceCtorEq,allP,q_r24_Preorder,hp,k0_r24_Generic,h'])
    rw [Bool.eq_false_iff.2 hq]
end Go.AE.S
namespace Go.AE
namespace Term
theorem post_any (q:Term→Bool) (t:Term):t.post.any q=t.pre.any q:=by
  induction t using ind with
  | h t ih=>
  have key:∀ l:List Term,(∀ a∈l,a.post.any q=a.pre.any q)→(posts l).any q=(pres l).any q:=by
    intro l
    induction l with
    | nil=>intro _;rfl
    | cons a l ihl=>intro h;rw [posts,pres,List.any_append,List.any_append,h a (by simp),ihl fun b hb=>h b (by simp [hb])]
  rw [post_eq,pre_eq,List.any_append,key _ ih,List.any_cons]
  simp [Bool.or_comm]
end Term
namespace S
open Go Go.AE
set_option linter.unusedSimpArgs false
set_option linter.unusedVariables false
variable {τ:Tm} {σ:Store} {rd:Option Nat}
def inner (p:Term):Bool:=match p.args with
  | a :: _=>a.pre.any fun u=>decide (u.op∈[24,26])
  | []=>false
def nodeE (p:Term) (ev:Bool):Int :=
  if arity p.op<0∨p.op=1∨(p.op=26∧ev=false)∨¬ (p.args.length:Int)=arity p.op then 4
  else if (¬ p.name=bs []∧¬ (p.op=24∨p.op=25))∨(¬ p.v=0∧¬ p.op=2∧¬ p.op=21) then 4
  else if (p.op=24∨p.op=25)∧nameOk p.name=false then 5
  else if ¬ (widthW p.op p.w p.v (p.args.map Term.w)).2=0∨¬ (widthW p.op p.w p.v (p.args.map Term.w)).1=p.w then 3
  else if p.op=26∧inner p=true then 12 else 0
theorem ar26:arity 26=1:=by decide
set_option maxHeartbeats 4000000 in
theorem s_pattern_node (p:Term) (ev:Bool) (ht:TOk p) (hc:p.count≤1000000):R P f_pattern_node [.agg p.row,.bool ev]=some (.int .i64 (nodeE p ev)):=by
  have hlc:=Term.counts_len p.args
  have hcc:=Term.count_eq p
  by_cases h1:arity p.op<0
  · (rw [r_pattern_node (lbY rfl),F_pattern_node];simp (disch:=omega) only [eqY,↓gc_len,seval,-List.reduceReplicate,reduceCtorEq,allP,q_opinfo_Arity,s_opinfo_Arity,h1])
    simp [nodeE,h1]
  by_cases h2:p.op=1
  · (rw [r_pattern_node (lbY rfl),F_pattern_node];simp (disch:=omega) only [eqY,↓gc_len,seval,-List.reduceReplicate,reduceCtorEq,allP,q_opinfo_Arity,s_opinfo_Arity,h1,eq_true h2])
    simp [nodeE,h2]
  by_cases h26:p.op=26∧ev=false
  · obtain ⟨h3,rfl⟩:=h26
    (rw [r_pattern_node (lbY rfl),F_pattern_node];simp (disch:=omega) only [eqY,↓gc_len,seval,-List.reduceReplicate,reduceCtorEq,allP,q_opinfo_Arity,s_opinfo_Arity,h1,h2,eq_true h3])
    simp [nodeE,h3]
  by_cases h5:(p.args.length:Int)=arity p.op
  rotate_left
  · have h5':=eq_false h5
    by_cases h3:p.op=26
    · have he:ev=true:=by cases ev;exact absurd ⟨h3,rfl⟩ h26;rfl
      subst he
      (rw [r_pattern_node (lbY rfl),F_pattern_node];simp (disch:=omega) only [eqY,↓gc_len,seval,-List.reduceReplicate,reduceCtorEq,allP,q_opinfo_Arity,s_opinfo_Arity,h1,h2,eq_true h3,List.length_map,h5'])
      simp [nodeE,h5]
    · (rw [r_pattern_node (lbY rfl),F_pattern_node];simp (disch:=omega) only [eqY,↓gc_len,seval,-List.reduceReplicate,reduceCtorEq,allP,q_opinfo_Arity,s_opinfo_Arity,h1,h2,h3,List.length_map,h5'])
      simp [nodeE,h5]
  have h5':=eq_true h5
  have hwd:=s_pattern_widths p.args (by omega)
  have hW:=s_opinfo_Width p.op p.w p.v (p.args.map Term.w) (by rw [List.length_map];have:=arity_some (o:=p.op) (by rcases Decidable.em (1≤p.op∧p.op≤26) with h | h;exact h;exact absurd (by rw [arity_none h];decide) h1);omega) ht.v
  have spec:∀ x:Int,(if (¬ p.name=bs []∧¬ (p.op=24∨p.op=25))∨(¬ p.v=0∧¬ p.op=2∧¬ p.op=21) then 4
      else if (p.op=24∨p.op=25)∧nameOk p.name=false then 5
      else if ¬ (widthW p.op p.w p.v (p.args.map Term.w)).2=0∨¬ (widthW p.op p.w p.v (p.args.map Term.w)).1=p.w then 3
      else if p.op=26∧inner p=true then 12 else 0)=x→nodeE p ev=x:=by
    intro x hx
    rw [← hx,nodeE,if_neg]
    rintro (h | h | h | h)
    · exact h1 h
    · exact h2 h
    · exact h26 h
    · exact h h5
  generalize hr:widthW p.op p.w p.v (p.args.map Term.w)=r at hW spec
  obtain ⟨rw,re⟩:=r
  simp only [two] at hW
  by_cases h3:p.op=26
  · have he:ev=true:=by cases ev;exact absurd ⟨h3,rfl⟩ h26;rfl
    subst he
    have n24:¬ (p.op=24∨p.op=25):=by omega
    have n2:¬ p.op=2:=by omega
    have n21:¬ p.op=21:=by omega
    by_cases h6:p.name=bs []
    rotate_left
    · rw [spec 4 (by simp [h6,n24])]
      (rw [r_pattern_node (lbY rfl),F_pattern_node];simp (disch:=omega) only [eqY,↓gc_len,seval,-List.reduceReplicate,reduceCtorEq,allP,q_opinfo_Arity,s_opinfo_Arity,h1,h2,eq_true h3,List.length_map,h5',h6,q_pattern_variable,s_pattern_variable,n24])
    by_cases h8:p.v=0
    rotate_left
    · rw [spec 4 (by simp [h8,n2,n21])]
      (rw [r_pattern_node (lbY rfl),F_pattern_node];simp (disch:=omega) only [eqY,↓gc_len,seval,-List.reduceReplicate,reduceCtorEq,allP,q_opinfo_Arity,s_opinfo_Arity,h1,h2,eq_true h3,List.length_map,h5',eq_true h6,q_pattern_variable,s_pattern_variable,n24,h8,n2,n21])
    by_cases g1:re=0
    rotate_left
    · rw [spec 3 (by simp [h6,h8,n24,g1])]
      (rw [r_pattern_node (lbY rfl),F_pattern_node];simp (disch:=omega) only [eqY,↓gc_len,seval,-List.reduceReplicate,reduceCtorEq,allP,q_opinfo_Arity,s_opinfo_Arity,h1,h2,eq_true h3,List.length_map,h5',eq_true h6,q_pattern_variable,s_pattern_variable,n24,eq_true h8,n2,n21,q_pattern_widths,hwd,q_opinfo_Width,hW,g1])
    by_cases g2:rw=p.w
    rotate_left
    · rw [spec 3 (by simp [h6,h8,n24,g2])]
      (rw [r_pattern_node (lbY rfl),F_pattern_node];simp (disch:=omega) only [eqY,↓gc_len,seval,-List.reduceReplicate,reduceCtorEq,allP,q_opinfo_Arity,s_opinfo_Arity,h1,h2,eq_true h3,List.length_map,h5',eq_true h6,q_pattern_variable,s_pattern_variable,n24,eq_true h8,n2,n21,q_pattern_widths,hwd,q_opinfo_Width,hW,eq_true g1,g2])
    rw [h3,ar26] at h5
    obtain ⟨a,hal⟩:∃ a,p.args=[a]:=by
      match hp:p.args with
      | [a]=>exact ⟨a,rfl⟩
      | []=>rw [hp] at h5;simp at h5
      | a :: b :: l=>rw [hp] at h5;simp at h5;omega
    have ha0:p.args[0]? = some a:=by rw [hal];rfl
    have hac:a.count≤1000000:=by have:=Term.counts_mem (l:=p.args) (a:=a) (by rw [hal];simp);omega
    have hh:=s_pattern_has a [24,26] hac (by decide)
    simp only [List.map_cons,List.map_nil,irow] at hh
    have i0:=v_ia0 (k:=.i64) (σ:=[]) (es:=5) (map_get (f:=Term.row) ha0) a.row_len
    have hin:inner p=a.pre.any fun u=>decide (u.op∈[24,26]):=by unfold inner;rw [hal]
    rw [spec (if inner p=true then 12 else 0) (by simp [h3,h6,h8,g1,g2])]
    rw [hin]
    cases hb:a.pre.any fun u=>decide (u.op∈[24,26])<;>rw [hb] at hh<;>(rw [r_pattern_node (lbY rfl),F_pattern_node];simp (disch:=omega) only [eqY,↓gc_len,seval,-List.reduceReplicate,reduceCtorEq,allP,q_opinfo_Arity,s_opinfo_Arity,h1,h2,eq_true h3,List.length_map,h5',eq_true h6,q_pattern_variable,s_pattern_variable,n24,eq_true h8,n2,n21,q_pattern_widths,hwd,q_opinfo_Width,hW,eq_true g1,eq_true g2,i0,q_pattern_has,hh])
  · by_cases n24:p.op=24∨p.op=25
    · have n2:¬ p.op=2:=by omega
      have n21:¬ p.op=21:=by omega
      by_cases h8:p.v=0
      rotate_left
      · rw [spec 4 (by simp [h8,n2,n21])]
        rcases Classical.propComplete (p.name=bs []) with h6 | h6<;>(rw [r_pattern_node (lbY rfl),F_pattern_node];simp (disch:=omega) only [eqY,↓gc_len,seval,-List.reduceReplicate,reduceCtorEq,allP,q_opinfo_Arity,s_opinfo_Arity,h1,h2,h3,List.length_map,h5',h6,q_pattern_variable,s_pattern_variable,n24,h8,n2,n21])
      cases h11:nameOk p.name with
      | false=>
        rw [spec 5 (by simp [h8,n24,h11])]
        rcases Classical.propComplete (p.name=bs []) with h6 | h6<;>(rw [r_pattern_node (lbY rfl),F_pattern_node];simp (disch:=omega) only [eqY,↓gc_len,seval,-List.reduceReplicate,reduceCtorEq,allP,q_opinfo_Arity,s_opinfo_Arity,h1,h2,h3,List.length_map,h5',h6,q_pattern_variable,s_pattern_variable,n24,eq_true h8,n2,n21,q_term_Name,s_term_Name,h11])
      | true=>
        by_cases g1:re=0
        rotate_left
        · rw [spec 3 (by simp [h8,n24,h11,g1])]
          rcases Classical.propComplete (p.name=bs []) with h6 | h6<;>(rw [r_pattern_node (lbY rfl),F_pattern_node];simp (disch:=omega) only [eqY,↓gc_len,seval,-List.reduceReplicate,reduceCtorEq,allP,q_opinfo_Arity,s_opinfo_Arity,h1,h2,h3,List.length_map,h5',h6,q_pattern_variable,s_pattern_variable,n24,eq_true h8,n2,n21,q_term_Name,s_term_Name,h11,q_pattern_widths,hwd,q_opinfo_Width,hW,g1])
        by_cases g2:rw=p.w
        rotate_left
        · rw [spec 3 (by simp [h8,n24,h11,g2])]
          rcases Classical.propComplete (p.name=bs []) with h6 | h6<;>(rw [r_pattern_node (lbY rfl),F_pattern_node];simp (disch:=omega) only [eqY,↓gc_len,seval,-List.reduceReplicate,reduceCtorEq,allP,q_opinfo_Arity,s_opinfo_Arity,h1,h2,h3,List.length_map,h5',h6,q_pattern_variable,s_pattern_variable,n24,eq_true h8,n2,n21,q_term_Name,s_term_Name,h11,q_pattern_widths,hwd,q_opinfo_Width,hW,eq_true g1,g2])
        rw [spec 0 (by simp [h8,n24,h11,g1,g2,h3])]
        rcases Classical.propComplete (p.name=bs []) with h6 | h6<;>(rw [r_pattern_node (lbY rfl),F_pattern_node];simp (disch:=omega) only [eqY,↓gc_len,seval,-List.reduceReplicate,reduceCtorEq,allP,q_opinfo_Arity,s_opinfo_Arity,h1,h2,h3,List.length_map,h5',h6,q_pattern_variable,s_pattern_variable,n24,eq_true h8,n2,n21,q_term_Name,s_term_Name,h11,q_pattern_widths,hwd,q_opinfo_Width,hW,eq_true g1,eq_true g2])
    · by_cases h6:p.name=bs []
      rotate_left
      · rw [spec 4 (by simp [h6,n24])]
        (rw [r_pattern_node (lbY rfl),F_pattern_node];simp (disch:=omega) only [eqY,↓gc_len,seval,-List.reduceReplicate,reduceCtorEq,allP,q_opinfo_Arity,s_opinfo_Arity,h1,h2,h3,List.length_map,h5',h6,q_pattern_variable,s_pattern_variable,n24])
      by_cases hv:¬ p.v=0∧¬ p.op=2∧¬ p.op=21
      · obtain ⟨h8,h9,h10⟩:=hv
        rw [spec 4 (by simp [h8,h9,h10])]
        (rw [r_pattern_node (lbY rfl),F_pattern_node];simp (disch:=omega) only [eqY,↓gc_len,seval,-List.reduceReplicate,reduceCtorEq,allP,q_opinfo_Arity,s_opinfo_Arity,h1,h2,h3,List.length_map,h5',eq_true h6,q_pattern_variable,s_pattern_variable,n24,h8,h9,h10])
      have hv':p.v=0∨(¬ p.v=0∧p.op=2)∨(¬ p.v=0∧¬ p.op=2∧p.op=21):=by
        by_cases a:p.v=0
        · exact .inl a
        · by_cases b:p.op=2
          · exact .inr (.inl ⟨a,b⟩)
          · exact .inr (.inr ⟨a,b,Decidable.of_not_not fun c=>hv ⟨a,b,c⟩⟩)
      have hv8:¬ ((¬ p.name=bs []∧¬ (p.op=24∨p.op=25))∨(¬ p.v=0∧¬ p.op=2∧¬ p.op=21)):=by
        rintro (h | h)
        · exact h.1 h6
        · exact hv h
      by_cases g1:re=0
      rotate_left
      · rw [spec 3 (by rw [if_neg hv8];simp [n24,g1])]
        rcases Classical.propComplete (p.v=0) with h8 | h8<;>rcases Classical.propComplete (p.op=2) with h9 | h9<;>rcases Classical.propComplete (p.op=21) with h10 | h10
        all_goals first
          | (exfalso;simp_all;done)
          | (rw [r_pattern_node (lbY rfl),F_pattern_node];simp (disch:=omega) only [eqY,↓gc_len,seval,-List.reduceReplicate,reduceCtorEq,allP,q_opinfo_Arity,s_opinfo_Arity,h1,h2,h3,List.length_map,h5',eq_true h6,q_pattern_variable,s_pattern_variable,n24,h8,h9,h10,q_pattern_widths,hwd,q_opinfo_Width,hW,g1])
      by_cases g2:rw=p.w
      rotate_left
      · rw [spec 3 (by rw [if_neg hv8];simp [n24,g2])]
        rcases Classical.propComplete (p.v=0) with h8 | h8<;>rcases Classical.propComplete (p.op=2) with h9 | h9<;>rcases Classical.propComplete (p.op=21) with h10 | h10
        all_goals first
          | (exfalso;simp_all;done)
          | (rw [r_pattern_node (lbY rfl),F_pattern_node];simp (disch:=omega) only [eqY,↓gc_len,seval,-List.reduceReplicate,reduceCtorEq,allP,q_opinfo_Arity,s_opinfo_Arity,h1,h2,h3,List.length_map,h5',eq_true h6,q_pattern_variable,s_pattern_variable,n24,h8,h9,h10,q_pattern_widths,hwd,q_opinfo_Width,hW,eq_true g1,g2])
      rw [spec 0 (by rw [if_neg hv8];simp [n24,g1,g2,h3])]
      rcases Classical.propComplete (p.v=0) with h8 | h8<;>rcases Classical.propComplete (p.op=2) with h9 | h9<;>rcases Classical.propComplete (p.op=21) with h10 | h10
      all_goals first
        | (exfalso;simp_all;done)
        | (rw [r_pattern_node (lbY rfl),F_pattern_node];simp (disch:=omega) only [eqY,↓gc_len,seval,-List.reduceReplicate,reduceCtorEq,allP,q_opinfo_Arity,s_opinfo_Arity,h1,h2,h3,List.length_map,h5',eq_true h6,q_pattern_variable,s_pattern_variable,n24,h8,h9,h10,q_pattern_widths,hwd,q_opinfo_Width,hW,eq_true g1,eq_true g2])
end S
end Go.AE
namespace Go.AE.S
open Go Go.AE
set_option linter.unusedSimpArgs false
set_option linter.unusedVariables false
variable {τ:Tm} {σ:Store} {rd:Option Nat}
abbrev e_nodeR (l:List Term) (i:Int):List (Nat×AV):=[(7,.p (.lst (l.map Term.row))),(8,.p (.int .i64 i))]
theorem l_r24_node (l:List Term) (hl:l.length≤1000000):if l.any (fun u=>decide (u.op∈[24,26]))=true then
      ∃ r,loopAt P L0_r24_node (e_nodeR l 0) σ 115 rd=some r∧ret1 4 (.int .i64 12) σ r
    else loopAt P L0_r24_node (e_nodeR l 0) σ 115 rd=some (.exit 0,⟨upd (upd (upd (upd (tm (e_nodeR l l.length)) 95 (.p (.int .i64 l.length))) 96 (.p (.lst (l.map Term.row)))) 97 (.p (.int .i64 l.length))) 98 (.p (.bool false)),σ,115,rd⟩):=by
  have h:=loop_foldE (P:=P) (nt:=115) (rd:=rd) (lv:=[7,8]) (b:=B0_r24_node) (x:=0) (as:=l) (fun i (_:Unit)=>e_nodeR l i) (fun _=>σ) (fun i _ a=>if decide (a.op∈[24,26])=true then .inr () else .inl ())
    (fun _=>⟨upd (upd (upd (upd (tm (e_nodeR l l.length)) 95 (.p (.int .i64 l.length))) 96 (.p (.lst (l.map Term.row)))) 97 (.p (.int .i64 l.length))) 98 (.p (.bool false)),σ,115,rd⟩) (fun _=>ret1 4 (.int .i64 12) σ) (fun _ _=>True)
    (fun i a s ha hi hs=>by
      refine ⟨fun _ _=>trivial,?_⟩
      have hlt:((i:Int)<l.length)=True:=by simpa using hi
      rcases Classical.propComplete (a.op=24) with h1 | h1<;>rcases Classical.propComplete (a.op=26) with h2 | h2<;>simp only [B0_r24_node]<;>simp (disch:=omega) only [eqY,↓gc_len,seval,-List.reduceReplicate,reduceCtorEq,allP,hlt,List.length_map,v_iadr (map_get (f:=Term.row) ha) a.row_len,h1,h2,List.mem_cons,List.not_mem_nil,ret1]) (fun s hs=>by
      simp only [B0_r24_node]
      simp (disch:=omega) only [eqY,↓gc_len,seval,-List.reduceReplicate,reduceCtorEq,allP,Int.lt_irrefl,List.length_map]) (fun i s=>rfl) () trivial
  rw [fold_anyG] at h
  exact (done_fi h :)
set_option maxHeartbeats 8000000 in
theorem s_r24_node (p:Term) (ev:Bool) (ht:TOk p) (hc:p.count≤1000000):R P f_r24_node [.agg p.row,.bool ev]=some (.int .i64 (nodeE p ev)):=by
  have hlc:=Term.counts_len p.args
  have hcc:=Term.count_eq p
  by_cases h1:arity p.op<0
  · (rw [r_r24_node (lbY rfl),F_r24_node];simp (disch:=omega) only [eqY,↓gc_len,seval,-List.reduceReplicate,reduceCtorEq,allP,q_r04_Arity,s_r04_Arity,h1])
    simp [nodeE,h1]
  by_cases h2:p.op=1
  · (rw [r_r24_node (lbY rfl),F_r24_node];simp (disch:=omega) only [eqY,↓gc_len,seval,-List.reduceReplicate,reduceCtorEq,allP,q_r04_Arity,s_r04_Arity,h1,eq_true h2])
    simp [nodeE,h2]
  by_cases h26:p.op=26∧ev=false
  · obtain ⟨h3,rfl⟩:=h26
    (rw [r_r24_node (lbY rfl),F_r24_node];simp (disch:=omega) only [eqY,↓gc_len,seval,-List.reduceReplicate,reduceCtorEq,allP,q_r04_Arity,s_r04_Arity,h1,h2,eq_true h3])
    simp [nodeE,h3]
  by_cases h5:(p.args.length:Int)=arity p.op
  rotate_left
  · have h5':=eq_false h5
    by_cases h3:p.op=26
    · have he:ev=true:=by cases ev;exact absurd ⟨h3,rfl⟩ h26;rfl
      subst he
      (rw [r_r24_node (lbY rfl),F_r24_node];simp (disch:=omega) only [eqY,↓gc_len,seval,-List.reduceReplicate,reduceCtorEq,allP,q_r04_Arity,s_r04_Arity,h1,h2,eq_true h3,List.length_map,h5'])
      simp [nodeE,h5]
    · (rw [r_r24_node (lbY rfl),F_r24_node];simp (disch:=omega) only [eqY,↓gc_len,seval,-List.reduceReplicate,reduceCtorEq,allP,q_r04_Arity,s_r04_Arity,h1,h2,h3,List.length_map,h5'])
      simp [nodeE,h5]
  have h5':=eq_true h5
  have hwd:=s_r24_widths p (by omega)
  have hvr:=s_r24_variable p
  have hW:=s_r04_Width p.op p.w p.v (p.args.map Term.w) (by rw [List.length_map];have:=arity_some (o:=p.op) (by rcases Decidable.em (1≤p.op∧p.op≤26) with h | h;exact h;exact absurd (by rw [arity_none h];decide) h1);omega) ht.v
  have spec:∀ x:Int,(if (¬ p.name=bs []∧¬ (p.op=24∨p.op=25))∨(¬ p.v=0∧¬ p.op=2∧¬ p.op=21) then 4
      else if (p.op=24∨p.op=25)∧nameOk p.name=false then 5
      else if ¬ (widthW p.op p.w p.v (p.args.map Term.w)).2=0∨¬ (widthW p.op p.w p.v (p.args.map Term.w)).1=p.w then 3
      else if p.op=26∧inner p=true then 12 else 0)=x→nodeE p ev=x:=by
    intro x hx
    rw [← hx,nodeE,if_neg]
    rintro (h | h | h | h)
    · exact h1 h
    · exact h2 h
    · exact h26 h
    · exact h h5
  generalize hr:widthW p.op p.w p.v (p.args.map Term.w)=r at hW spec
  obtain ⟨rw,re⟩:=r
  simp only [two] at hW
  by_cases h3:p.op=26
  · have he:ev=true:=by cases ev;exact absurd ⟨h3,rfl⟩ h26;rfl
    subst he
    have n24:¬ (p.op=24∨p.op=25):=by omega
    have n2:¬ p.op=2:=by omega
    have n21:¬ p.op=21:=by omega
    by_cases h6:p.name=bs []
    rotate_left
    · rw [spec 4 (by simp [h6,n24])]
      (rw [r_r24_node (lbY rfl),F_r24_node];simp (disch:=omega) only [eqY,↓gc_len,seval,-List.reduceReplicate,reduceCtorEq,allP,q_r04_Arity,s_r04_Arity,h1,h2,eq_true h3,List.length_map,h5',h6,q_r24_variable,hvr,n24])
    by_cases h8:p.v=0
    rotate_left
    · rw [spec 4 (by simp [h8,n2,n21])]
      (rw [r_r24_node (lbY rfl),F_r24_node];simp (disch:=omega) only [eqY,↓gc_len,seval,-List.reduceReplicate,reduceCtorEq,allP,q_r04_Arity,s_r04_Arity,h1,h2,eq_true h3,List.length_map,h5',eq_true h6,q_r24_variable,hvr,n24,h8,n2,n21])
    by_cases g1:re=0
    rotate_left
    · rw [spec 3 (by simp [h6,h8,n24,g1])]
      (rw [r_r24_node (lbY rfl),F_r24_node];simp (disch:=omega) only [eqY,↓gc_len,seval,-List.reduceReplicate,reduceCtorEq,allP,q_r04_Arity,s_r04_Arity,h1,h2,eq_true h3,List.length_map,h5',eq_true h6,q_r24_variable,hvr,n24,eq_true h8,n2,n21,q_r24_widths,hwd,q_r04_Width,hW,g1])
    by_cases g2:rw=p.w
    rotate_left
    · rw [spec 3 (by simp [h6,h8,n24,g2])]
      (rw [r_r24_node (lbY rfl),F_r24_node];simp (disch:=omega) only [eqY,↓gc_len,seval,-List.reduceReplicate,reduceCtorEq,allP,q_r04_Arity,s_r04_Arity,h1,h2,eq_true h3,List.length_map,h5',eq_true h6,q_r24_variable,hvr,n24,eq_true h8,n2,n21,q_r24_widths,hwd,q_r04_Width,hW,eq_true g1,g2])
    rw [h3,ar26] at h5
    obtain ⟨a,hal⟩:∃ a,p.args=[a]:=by
      match hp:p.args with
      | [a]=>exact ⟨a,rfl⟩
      | []=>rw [hp] at h5;simp at h5
      | a :: b :: l=>rw [hp] at h5;simp at h5;omega
    have ha0:p.args[0]? = some a:=by rw [hal];rfl
    have hac:a.count≤1000000:=by have:=Term.counts_mem (l:=p.args) (a:=a) (by rw [hal];simp);omega
    have hpo:=s_r24_Postorder a hac
    have hL:=l_r24_node (σ:=[]) (rd:=none) a.post (by rw [Term.post_len];omega)
    have i0:=v_ia0 (k:=.i64) (σ:=[]) (es:=5) (map_get (f:=Term.row) ha0) a.row_len
    have hin:inner p=a.pre.any fun u=>decide (u.op∈[24,26]):=by unfold inner;rw [hal]
    rw [spec (if inner p=true then 12 else 0) (by simp [h3,h6,h8,g1,g2])]
    rw [hin]
    rw [Term.post_any] at hL
    cases hb:a.pre.any fun u=>decide (u.op∈[24,26]) with
    | true=>
      rw [hb,if_pos rfl] at hL
      obtain ⟨⟨e,τ',σ',nt',rd'⟩,k1,k2,k3,k4⟩:=hL
      simp only at k2 k3 k4
      subst k2;subst k4
      (rw [r_r24_node (lbY rfl),F_r24_node];simp (disch:=omega) only [eqY,↓gc_len,seval,-List.reduceReplicate,reduceCtorEq,allP,q_r04_Arity,s_r04_Arity,h1,h2,eq_true h3,List.length_map,h5',eq_true h6,q_r24_variable,hvr,n24,eq_true h8,n2,n21,q_r24_widths,hwd,q_r04_Width,hW,eq_true g1,eq_true g2,i0,q_r24_Postorder,hpo,k0_r24_node,k1,k3])
    | false=>
      rw [hb,if_neg (by simp)] at hL
      (rw [r_r24_node (lbY rfl),F_r24_node];simp (disch:=omega) only [eqY,↓gc_len,seval,-List.reduceReplicate,reduceCtorEq,allP,q_r04_Arity,s_r04_Arity,h1,h2,eq_true h3,List.length_map,h5',eq_true h6,q_r24_variable,hvr,n24,eq_true h8,n2,n21,q_r24_widths,hwd,q_r04_Width,hW,eq_true g1,eq_true g2,i0,q_r24_Postorder,hpo,k0_r24_node,hL])
  · by_cases n24:p.op=24∨p.op=25
    · have n2:¬ p.op=2:=by omega
      have n21:¬ p.op=21:=by omega
      by_cases h8:p.v=0
      rotate_left
      · rw [spec 4 (by simp [h8,n2,n21])]
        (rw [r_r24_node (lbY rfl),F_r24_node];simp (disch:=omega) only [eqY,↓gc_len,seval,-List.reduceReplicate,reduceCtorEq,allP,q_r04_Arity,s_r04_Arity,h1,h2,h3,List.length_map,h5',q_r24_variable,hvr,n24,h8,n2,n21])
      cases h11:nameOk p.name with
      | false=>
        rw [spec 5 (by simp [h8,n24,h11])]
        (rw [r_r24_node (lbY rfl),F_r24_node];simp (disch:=omega) only [eqY,↓gc_len,seval,-List.reduceReplicate,reduceCtorEq,allP,q_r04_Arity,s_r04_Arity,h1,h2,h3,List.length_map,h5',q_r24_variable,hvr,n24,eq_true h8,n2,n21,q_r07_Name,s_r07_Name,h11])
      | true=>
        by_cases g1:re=0
        rotate_left
        · rw [spec 3 (by simp [h8,n24,h11,g1])]
          (rw [r_r24_node (lbY rfl),F_r24_node];simp (disch:=omega) only [eqY,↓gc_len,seval,-List.reduceReplicate,reduceCtorEq,allP,q_r04_Arity,s_r04_Arity,h1,h2,h3,List.length_map,h5',q_r24_variable,hvr,n24,eq_true h8,n2,n21,q_r07_Name,s_r07_Name,h11,q_r24_widths,hwd,q_r04_Width,hW,g1])
        by_cases g2:rw=p.w
        rotate_left
        · rw [spec 3 (by simp [h8,n24,h11,g2])]
          (rw [r_r24_node (lbY rfl),F_r24_node];simp (disch:=omega) only [eqY,↓gc_len,seval,-List.reduceReplicate,reduceCtorEq,allP,q_r04_Arity,s_r04_Arity,h1,h2,h3,List.length_map,h5',q_r24_variable,hvr,n24,eq_true h8,n2,n21,q_r07_Name,s_r07_Name,h11,q_r24_widths,hwd,q_r04_Width,hW,eq_true g1,g2])
        rw [spec 0 (by simp [h8,n24,h11,g1,g2,h3])]
        (rw [r_r24_node (lbY rfl),F_r24_node];simp (disch:=omega) only [eqY,↓gc_len,seval,-List.reduceReplicate,reduceCtorEq,allP,q_r04_Arity,s_r04_Arity,h1,h2,h3,List.length_map,h5',q_r24_variable,hvr,n24,eq_true h8,n2,n21,q_r07_Name,s_r07_Name,h11,q_r24_widths,hwd,q_r04_Width,hW,eq_true g1,eq_true g2])
    · by_cases h6:p.name=bs []
      rotate_left
      · rw [spec 4 (by simp [h6,n24])]
        (rw [r_r24_node (lbY rfl),F_r24_node];simp (disch:=omega) only [eqY,↓gc_len,seval,-List.reduceReplicate,reduceCtorEq,allP,q_r04_Arity,s_r04_Arity,h1,h2,h3,List.length_map,h5',h6,q_r24_variable,hvr,n24])
      by_cases hv:¬ p.v=0∧¬ p.op=2∧¬ p.op=21
      · obtain ⟨h8,h9,h10⟩:=hv
        rw [spec 4 (by simp [h8,h9,h10])]
        (rw [r_r24_node (lbY rfl),F_r24_node];simp (disch:=omega) only [eqY,↓gc_len,seval,-List.reduceReplicate,reduceCtorEq,allP,q_r04_Arity,s_r04_Arity,h1,h2,h3,List.length_map,h5',eq_true h6,q_r24_variable,hvr,n24,h8,h9,h10])
      have hv8:¬ ((¬ p.name=bs []∧¬ (p.op=24∨p.op=25))∨(¬ p.v=0∧¬ p.op=2∧¬ p.op=21)):=by
        rintro (h | h)
        · exact h.1 h6
        · exact hv h
      by_cases g1:re=0
      rotate_left
      · rw [spec 3 (by rw [if_neg hv8];simp [n24,g1])]
        rcases Classical.propComplete (p.v=0) with h8 | h8<;>rcases Classical.propComplete (p.op=2) with h9 | h9<;>rcases Classical.propComplete (p.op=21) with h10 | h10
        all_goals first
          | (exfalso;simp_all;done)
          | (rw [r_r24_node (lbY rfl),F_r24_node];simp (disch:=omega) only [eqY,↓gc_len,seval,-List.reduceReplicate,reduceCtorEq,allP,q_r04_Arity,s_r04_Arity,h1,h2,h3,List.length_map,h5',eq_true h6,q_r24_variable,hvr,n24,h8,h9,h10,q_r24_widths,hwd,q_r04_Width,hW,g1])
      by_cases g2:rw=p.w
      rotate_left
      · rw [spec 3 (by rw [if_neg hv8];simp [n24,g2])]
        rcases Classical.propComplete (p.v=0) with h8 | h8<;>rcases Classical.propComplete (p.op=2) with h9 | h9<;>rcases Classical.propComplete (p.op=21) with h10 | h10
        all_goals first
          | (exfalso;simp_all;done)
          | (rw [r_r24_node (lbY rfl),F_r24_node];simp (disch:=omega) only [eqY,↓gc_len,seval,-List.reduceReplicate,reduceCtorEq,allP,q_r04_Arity,s_r04_Arity,h1,h2,h3,List.length_map,h5',eq_true h6,q_r24_variable,hvr,n24,h8,h9,h10,q_r24_widths,hwd,q_r04_Width,hW,eq_true g1,g2])
      rw [spec 0 (by rw [if_neg hv8];simp [n24,g1,g2,h3])]
      rcases Classical.propComplete (p.v=0) with h8 | h8<;>rcases Classical.propComplete (p.op=2) with h9 | h9<;>rcases Classical.propComplete (p.op=21) with h10 | h10
      all_goals first
        | (exfalso;simp_all;done)
        | (rw [r_r24_node (lbY rfl),F_r24_node];simp (disch:=omega) only [eqY,↓gc_len,seval,-List.reduceReplicate,reduceCtorEq,allP,q_r04_Arity,s_r04_Arity,h1,h2,h3,List.length_map,h5',eq_true h6,q_r24_variable,hvr,n24,h8,h9,h10,q_r24_widths,hwd,q_r04_Width,hW,eq_true g1,eq_true g2])
def firstE (ev:Bool):List Term→Int
  | []=>0
  | a :: r=>if nodeE a ev=0 then firstE ev r else nodeE a ev
theorem first_append (ev:Bool):∀ l m:List Term,firstE ev (l++m)=if firstE ev l=0 then firstE ev m else firstE ev l
  | [],m=>rfl
  | a :: l,m=>by
    simp only [List.cons_append,firstE]
    by_cases h:nodeE a ev=0
    · simp only [h,if_true];exact first_append ev l m
    · simp only [h,if_false]
abbrev e_nodes (t:Term) (ev:Bool) (i:Int):List (Nat×AV):=[(1,.p (.bool ev)),(2,.p (.ptr t.row 0)),(9,.p (.lst (t.args.map Term.row))),(10,.p (.int .i64 t.args.length)),(11,.p (.int .i64 i))]
theorem fold_nodes (ev:Bool):∀ (l:List Term) (i:Nat),doneP (fun _=>firstE ev (Term.posts l)=0) (fun e=>firstE ev (Term.posts l)=e∧e≠0) (foldE (S:=Unit) (T:=Int) (fun _ _ a=>if firstE ev a.post=0 then .inl () else .inr (firstE ev a.post)) i () l)
  | [],i=>rfl
  | a :: l,i=>by
    simp only [foldE,Term.posts,first_append]
    by_cases h:firstE ev a.post=0
    · simp only [h,if_true];exact fold_nodes ev l (i+1)
    · simp only [h,if_false];exact ⟨rfl,h⟩
theorem s_pattern_nodes (t:Term) (ev:Bool):TOk t→t.count≤1000000→R P f_pattern_nodes [.agg t.row,.bool ev]=some (.int .i64 (firstE ev t.post)):=by
  induction t using Term.ind with
  | h t ih=>
  intro ht hc
  have hlen:=Term.counts_len t.args
  have hct:=Term.count_eq t
  have h:=loop_foldE (P:=P) (nt:=25) (rd:=none) (lv:=[1,2,9,10,11]) (b:=B0_pattern_nodes) (x:=0) (as:=t.args) (fun i (_:Unit)=>e_nodes t ev i) (fun _=>[]) (fun _ _ a=>if firstE ev a.post=0 then .inl () else .inr (firstE ev a.post))
    (fun s=>⟨upd (tm (e_nodes t ev t.args.length)) 12 (.p (.bool false)),[],25,none⟩) (fun e=>ret1 4 (.int .i64 e) []) (fun _ _=>True)
    (fun i a s ha hi hs=>by
      refine ⟨fun _ _=>trivial,?_⟩
      have hm:=List.mem_of_getElem? ha
      have hac:=Term.counts_mem hm
      have hr:=ih a hm (ht.args hm) (by omega)
      have hlt:((i:Int)<t.args.length)=True:=by simpa using hi
      by_cases hf:firstE ev a.post=0
      · simp only [B0_pattern_nodes]
        simp (disch:=omega) only [eqY,↓gc_len,seval,-List.reduceReplicate,reduceCtorEq,allP,hlt,v_iadr (map_get (f:=Term.row) ha) a.row_len,q_pattern_nodes,hr,eq_true hf]
      · simp only [B0_pattern_nodes]
        simp (disch:=omega) only [eqY,↓gc_len,seval,-List.reduceReplicate,reduceCtorEq,allP,hlt,v_iadr (map_get (f:=Term.row) ha) a.row_len,q_pattern_nodes,hr,hf,ret1]) (fun s hs=>by
      simp only [B0_pattern_nodes]
      simp (disch:=omega) only [eqY,↓gc_len,seval,-List.reduceReplicate,reduceCtorEq,allP,Int.lt_irrefl]) (fun i s=>rfl) () trivial
  have hn:=s_pattern_node t ev ht hc
  have hf:=fold_nodes ev t.args 0
  rw [Term.post_eq,first_append]
  simp only [firstE]
  cases hfe:foldE (S:=Unit) (T:=Int) (fun _ _ a=>if firstE ev a.post=0 then .inl () else .inr (firstE ev a.post)) 0 () t.args with
  | inl s=>
    rw [hfe] at h hf
    have h':loopAt P L0_pattern_nodes (e_nodes t ev 0) [] 25 none=_:=h
    have hf':firstE ev (Term.posts t.args)=0:=hf
    rw [hf']
    (rw [r_pattern_nodes (lbY rfl),F_pattern_nodes];simp (disch:=omega) only [eqY,↓gc_len,seval,-List.reduceReplicate,reduceCtorEq,allP,List.length_map,k0_pattern_nodes,h',q_pattern_node,hn])
    by_cases h0:nodeE t ev=0<;>simp [h0]
  | inr e=>
    rw [hfe] at h hf
    obtain ⟨⟨e',τ',σ',nt',rd'⟩,g1,g2,g3,g4⟩:=h
    simp only at g2 g3 g4
    subst g2;subst g4
    have h':loopAt P L0_pattern_nodes (e_nodes t ev 0) [] 25 none=some (.ret,⟨τ',[],nt',rd'⟩):=g1
    have hf':firstE ev (Term.posts t.args)=e∧e≠0:=hf
    rw [hf'.1,if_neg hf'.2]
    (rw [r_pattern_nodes (lbY rfl),F_pattern_nodes];simp (disch:=omega) only [eqY,↓gc_len,seval,-List.reduceReplicate,reduceCtorEq,allP,List.length_map,k0_pattern_nodes,h',g3])
def ent (e:ByteArray×Term):PV×AV:=(.str e.1,.p (.agg e.2.row))
def lkB:List (ByteArray×Term)→ByteArray→Option Term
  | [],_=>none
  | e :: r,k=>if k=e.1 then some e.2 else lkB r k
def stB (u:Term):List (ByteArray×Term)→List (ByteArray×Term)
  | []=>[(u.name,u)]
  | e :: r=>if u.name=e.1 then (u.name,u) :: r else e :: stB u r
theorem eq_str (a b:ByteArray):eqLeaf .str (.str a) (.str b)=some (decide (a=b)):=by
  simp only [eqLeaf]
  congr 1
  rw [Bool.eq_iff_iff]
  simp [bytes_ext]
theorem find_ent (k:ByteArray):∀ s:List (ByteArray×Term),findKey .str (.str k) (s.map ent)=some ((lkB s k).map fun u=>.p (.agg u.row))
  | []=>rfl
  | e :: r=>by
    simp only [List.map_cons,findKey,ent,eq_str,lkB]
    by_cases h:k=e.1
    · simp [h]
    · simp only [h,decide_false,if_false]
      exact find_ent k r
theorem set_ent (u:Term):∀ s:List (ByteArray×Term),setKey .str (.str u.name) (.p (.agg u.row)) (s.map ent)=some ((stB u s).map ent)
  | []=>rfl
  | e :: r=>by
    simp only [List.map_cons,setKey,ent,eq_str,stB]
    by_cases h:u.name=e.1
    · simp [h,ent]
    · simp only [h,decide_false,if_false]
      rw [set_ent u r];rfl
theorem below_ent (n:Nat) (s:List (ByteArray×Term)):((s.map ent).all fun e=>AE.below n e.2)=true:=by
  rw [List.all_eq_true]
  intro x hx
  obtain ⟨e,_,rfl⟩:=List.mem_map.1 hx
  exact below_p
def isVar (u:Term):Bool:=decide (u.op=24∨u.op=25)
def bindF (s:List (ByteArray×Term)) (u:Term):List (ByteArray×Term) ⊕ List (ByteArray×Term) :=
  if isVar u=true then
    match lkB s u.name with
    | some o=>if o.op=u.op∧o.w=u.w then .inl (stB u s) else .inr s
    | none=>.inl (stB u s)
  else .inl s
abbrev sC (c:Int) (s:List (ByteArray×Term)):Store:=[.pv 1 [[.int .i64 c]] false,.map (s.map ent) false,.av 1 [[.map 1]] false]
theorem v_mupd_m {a:Obj} {es es':List (PV×AV)} {r:Store} {kl:Leaf} {k:PV} {v:AV} (h:isLeaf kl k=true) (h':setKey kl k v es=some es'):mupdV (a :: .map es false :: r) kl (.map 1) (.p k) v=some (.any,a :: .map es' false :: r):=by
  simp [mupdV,h,h']
theorem v_lenM_m {a:Obj} {es:List (PV×AV)} {r:Store}:lenMV (a :: .map es false :: r) (.map 1)=some (.p (.int .i64 es.length)):=rfl
theorem r_Check (t:Term) (hc:t.count≤1000000):rangeR P [27] A0_pattern_Check B0_pattern_Check (.p (.fn f_pattern_preorder_1 [.ptr t.row 0])) [(4,.ptr 0 1 0 0),(6,.ptr 2 1 0 0)] (sC 0 []) 61 none=some (rangeEnd (sC 0) (fun s=>(.ret,sC 12 s)) (foldE (fun _ s u=>bindF s u) 0 [] t.pre)):=by
  refine range_pre (rd:=none) (kept:=[(4,.ptr 0 1 0 0),(6,.ptr 2 1 0 0)]) (ps:=[27]) (asg:=A0_pattern_Check) (b:=B0_pattern_Check) (nt:=61) t hc ⟨rfl,rfl⟩ (sC 0) (fun _ s u=>bindF s u) (fun s=>(.ret,sC 12 s))
    (fun _ _=>True) [] rfl (fun _=>rfl) (fun _=>rfl) (fun s=>by simp only [sC,List.all_cons,List.all_nil,obj_below,obj_belowM,obj_belowA,below_ent,below_map];rfl) (fun s=>by simp only [sC,List.all_cons,List.all_nil,obj_below,obj_belowM,obj_belowA,below_ent,below_map];rfl) (fun _=>by simp) (fun i u s ha _=>?_) trivial
  refine ⟨fun _ _=>trivial,?_⟩
  simp only [sC,List.cons_append,List.nil_append]
  rw [round_go rfl ⟨rfl,rfl,rfl⟩]
  have hpv:=s_pattern_variable u.op
  unfold bindF isVar
  by_cases hv:u.op=24∨u.op=25
  rotate_left
  · simp only [A0_pattern_Check,B0_pattern_Check]
    simp (disch:=omega) only [eqY,↓gc_len,seval,-List.reduceReplicate,reduceCtorEq,allP,q_pattern_variable,hpv,hv,below_ent]
  · have hfk:=find_ent u.name s
    have hsk:=set_ent u s
    simp only [hv]
    cases hl:lkB s u.name with
    | none=>
      rw [hl] at hfk
      have hlk:=fun r=>look_none (r:=r) (a:=.pv 1 [[.int .i64 0]] false) (z:=.agg [.p (.int .i64 0),.p (.int .i64 0),.p (.int .u64 0),.p (.str (bs [])),.nils]) (kl:=.str) (k:=.str u.name) rfl hfk
      simp only [A0_pattern_Check,B0_pattern_Check]
      simp (disch:=omega) only [eqY,↓gc_len,seval,-List.reduceReplicate,reduceCtorEq,allP,q_pattern_variable,hpv,hv,below_ent,hlk,v_mupd_m rfl hsk]
    | some o=>
      rw [hl] at hfk
      have hlk:=fun r=>look_some (r:=r) (a:=.pv 1 [[.int .i64 0]] false) (z:=.agg [.p (.int .i64 0),.p (.int .i64 0),.p (.int .u64 0),.p (.str (bs [])),.nils]) (kl:=.str) (k:=.str u.name) rfl hfk
      simp only [A0_pattern_Check,B0_pattern_Check]
      rcases Classical.propComplete (o.op=u.op) with h1 | h1<;>rcases Classical.propComplete (o.w=u.w) with h2 | h2<;>simp (disch:=omega) only [eqY,↓gc_len,seval,-List.reduceReplicate,reduceCtorEq,allP,q_pattern_variable,hpv,hv,below_ent,hlk,h1,h2,v_mupd_m rfl hsk]
def checkE (p:Term) (ev:Bool):Int :=
  if 4096<p.count∨64<p.deep then 7
  else if ¬ firstE ev p.post=0 then firstE ev p.post
  else match foldE (fun _ s u=>bindF s u) 0 [] p.pre with
    | .inl s=>if 16<s.length then 7 else 0
    | .inr _=>12
theorem s_pattern_Check (p:Term) (ev:Bool) (ht:TOk p) (hc:p.count≤1000000):R P f_pattern_Check [.agg p.row,.bool ev]=some (.int .i64 (checkE p ev)):=by
  have h1:=s_term_Size p hc
  have h2:=s_term_Depth p hc
  have h3:=s_pattern_nodes p ev ht hc
  have h4:=r_Check p hc
  unfold checkE
  by_cases g1:(4096:Int)<p.count
  · rw [if_pos (by omega)]
    (rw [r_pattern_Check (lbY rfl),F_pattern_Check];simp (disch:=omega) only [eqY,↓gc_len,seval,-List.reduceReplicate,reduceCtorEq,allP,q_term_Size,h1,g1])
  by_cases g2:(64:Int)<p.deep
  · rw [if_pos (by omega)]
    (rw [r_pattern_Check (lbY rfl),F_pattern_Check];simp (disch:=omega) only [eqY,↓gc_len,seval,-List.reduceReplicate,reduceCtorEq,allP,q_term_Size,h1,g1,q_term_Depth,h2,g2])
  rw [if_neg (by omega)]
  by_cases g3:firstE ev p.post=0
  rotate_left
  · rw [if_pos g3]
    (rw [r_pattern_Check (lbY rfl),F_pattern_Check];simp (disch:=omega) only [eqY,↓gc_len,seval,-List.reduceReplicate,reduceCtorEq,allP,q_term_Size,h1,g1,q_term_Depth,h2,g2,q_pattern_nodes,h3,g3])
  rw [if_neg (by simpa using g3)]
  cases hf:foldE (fun _ s u=>bindF s u) 0 [] p.pre with
  | inr s=>
    rw [hf] at h4
    have h4':rangeR P [27] A0_pattern_Check B0_pattern_Check (.p (.fn f_pattern_preorder_1 [.ptr p.row 0])) [(4,.ptr 0 1 0 0),(6,.ptr 2 1 0 0)] [.pv 1 [[.int .i64 0]] false,.map [] false,.av 1 [[.map 1]] false] 61 none=some (.ret,sC 12 s):=h4
    (rw [r_pattern_Check (lbY rfl),F_pattern_Check];simp (disch:=omega) only [eqY,↓gc_len,seval,-List.reduceReplicate,reduceCtorEq,allP,q_term_Size,h1,g1,q_term_Depth,h2,g2,q_pattern_nodes,h3,eq_true g3,q_pattern_preorder,s_pattern_preorder,kR0_pattern_Check,h4'])
  | inl s=>
    rw [hf] at h4
    have h4':rangeR P [27] A0_pattern_Check B0_pattern_Check (.p (.fn f_pattern_preorder_1 [.ptr p.row 0])) [(4,.ptr 0 1 0 0),(6,.ptr 2 1 0 0)] [.pv 1 [[.int .i64 0]] false,.map [] false,.av 1 [[.map 1]] false] 61 none=some (.normal,sC 0 s):=h4
    by_cases g4:(16:Int)<s.length
    · simp only
      rw [if_pos (by omega)]
      (rw [r_pattern_Check (lbY rfl),F_pattern_Check];simp (disch:=omega) only [eqY,↓gc_len,seval,-List.reduceReplicate,reduceCtorEq,allP,q_term_Size,h1,g1,q_term_Depth,h2,g2,q_pattern_nodes,h3,eq_true g3,q_pattern_preorder,s_pattern_preorder,kR0_pattern_Check,h4',v_lenM_m,List.length_map,g4])
    · simp only
      rw [if_neg (by omega)]
      (rw [r_pattern_Check (lbY rfl),F_pattern_Check];simp (disch:=omega) only [eqY,↓gc_len,seval,-List.reduceReplicate,reduceCtorEq,allP,q_term_Size,h1,g1,q_term_Depth,h2,g2,q_pattern_nodes,h3,eq_true g3,q_pattern_preorder,s_pattern_preorder,kR0_pattern_Check,h4',v_lenM_m,List.length_map,g4])
def srow (n:ByteArray):List PV:=[.str n]
def innerF (u:Term) (_:Nat) (s:Bool) (a:Term):Bool ⊕ Unit :=
  if isVar a=true∧a.name=u.name then (if ¬ a.w=u.w∨¬ a.op=u.op then .inr () else .inl true) else .inl s
def outerF (l:List Term) (i:Nat) (s:List ByteArray) (u:Term):List ByteArray ⊕ Unit :=
  if isVar u=true then
    match foldE (innerF u) 0 false (l.take i) with
    | .inr _=>.inr ()
    | .inl again=>.inl (if again=true then s else s++[u.name])
  else .inl s
abbrev e_n1 (l:List Term) (n:Nat) (i:Int) (s:Bool) (k:Int):List (Nat×AV):=[(4,.p (.lst (l.map Term.row))),(5,.sl 0 n),(6,.p (.int .i64 i)),(7,.p (.bool s)),(8,.p (.int .i64 k))]
def retN (r:Ex×St):Prop:=r.1=.ret∧r.2.τ.get 2=.nils∧r.2.τ.get 3=.p (.bool false)
set_option maxHeartbeats 4000000 in
theorem l1_names (l:List Term) (n:Nat) (i:Nat) (u:Term) (hu:l[i]? = some u) (hl:l.length≤1000000) :
    doneP (fun s=>loopAt P L1_r24_names (e_n1 l n i false 0) σ 82 rd=some (.exit 2,⟨upd (upd (upd (tm (e_n1 l n i s i)) 24 (.p (.int .i64 i))) 25 (.p (.int .i64 i))) 26 (.p (.bool false)),σ,82,rd⟩))
      (fun (_:Unit)=>∃ r,loopAt P L1_r24_names (e_n1 l n i false 0) σ 82 rd=some r∧retN r) (foldE (innerF u) 0 false (l.take i)):=by
  have hi:i<l.length:=(List.getElem?_eq_some_iff.1 hu).1
  have hlen:(l.take i).length=i:=by rw [List.length_take];omega
  have hui:=v_iadr (k:=.i64) (σ:=σ) (map_get (f:=Term.row) hu) u.row_len
  have h:=loop_foldE (P:=P) (nt:=82) (rd:=rd) (lv:=[4,5,6,7,8]) (b:=B1_r24_names) (x:=2) (as:=l.take i) (fun k (s:Bool)=>e_n1 l n i s k) (fun _=>σ) (innerF u)
    (fun s=>⟨upd (upd (upd (tm (e_n1 l n i s i)) 24 (.p (.int .i64 i))) 25 (.p (.int .i64 i))) 26 (.p (.bool false)),σ,82,rd⟩) (fun (_:Unit)=>retN) (fun _ _=>True)
    (fun k a s ha hk hs=>by
      refine ⟨fun _ _=>trivial,?_⟩
      rw [hlen] at hk
      have ha':l[k]? = some a:=by rw [List.getElem?_take_of_lt hk] at ha;exact ha
      have hlt:((k:Int)<i)=True:=by simpa using hk
      have hai:=v_iadr (k:=.i64) (σ:=σ) (map_get (f:=Term.row) ha') a.row_len
      have hv:=s_r24_variable a
      unfold innerF isVar
      by_cases h1:a.op=24∨a.op=25
      rotate_left
      · simp only [B1_r24_names,h1]
        simp (disch:=omega) only [eqY,↓gc_len,seval,-List.reduceReplicate,reduceCtorEq,allP,hlt,hai,q_r24_variable,hv,h1]
      rcases Classical.propComplete (a.name=u.name) with h2 | h2
      rotate_left
      · simp only [B1_r24_names,h1]
        simp (disch:=omega) only [eqY,↓gc_len,seval,-List.reduceReplicate,reduceCtorEq,allP,hlt,hai,hui,q_r24_variable,hv,h1,h2]
      rcases Classical.propComplete (a.w=u.w) with h3 | h3<;>rcases Classical.propComplete (a.op=u.op) with h4 | h4<;>simp only [B1_r24_names,h1]<;>simp (disch:=omega) only [eqY,↓gc_len,seval,-List.reduceReplicate,reduceCtorEq,allP,hlt,hai,hui,q_r24_variable,hv,h1,h2,h3,h4,retN]) (fun s hs=>by
      rw [hlen]
      simp only [B1_r24_names]
      simp (disch:=omega) only [eqY,↓gc_len,seval,-List.reduceReplicate,reduceCtorEq,allP,Int.lt_irrefl]) (fun i s=>rfl) false trivial
  exact h
abbrev e_n0 (l:List Term) (s:List ByteArray) (i:Int):List (Nat×AV):=[(4,.p (.lst (l.map Term.row))),(5,.sl 0 s.length),(6,.p (.int .i64 i))]
abbrev sS (s:List ByteArray):Store:=[.pv 1 (s.map srow) false]
set_option maxHeartbeats 4000000 in
theorem l0_names (l:List Term) (hl:l.length≤1000000) :
    doneP (fun s=>loopAt P L0_r24_names (e_n0 l [] 0) (sS []) 82 none=some (.exit 0,⟨upd (upd (upd (upd (tm (e_n0 l s l.length)) 12 (.p (.int .i64 l.length))) 13 (.p (.lst (l.map Term.row)))) 14 (.p (.int .i64 l.length))) 15 (.p (.bool false)),sS s,82,none⟩))
      (fun (_:Unit)=>∃ r,loopAt P L0_r24_names (e_n0 l [] 0) (sS []) 82 none=some r∧retN r) (foldE (outerF l) 0 [] l):=by
  have h:=loop_foldE (P:=P) (nt:=82) (rd:=none) (lv:=[4,5,6]) (b:=B0_r24_names) (x:=0) (as:=l) (fun i s=>e_n0 l s i) sS (outerF l)
    (fun s=>⟨upd (upd (upd (upd (tm (e_n0 l s l.length)) 12 (.p (.int .i64 l.length))) 13 (.p (.lst (l.map Term.row)))) 14 (.p (.int .i64 l.length))) 15 (.p (.bool false)),sS s,82,none⟩) (fun (_:Unit)=>retN) (fun i s=>s.length≤i)
    (fun i u s hu hi hs=>by
      have hlt:((i:Int)<l.length)=True:=by simpa using hi
      have hui:=v_iadr (k:=.i64) (σ:=sS s) (map_get (f:=Term.row) hu) u.row_len
      have hui2:=v_iadr (k:=.i64) (σ:=[.pv 1 (s.map srow) false]) (map_get (f:=Term.row) hu) u.row_len
      have hv:=s_r24_variable u
      have hL:=l1_names (σ:=sS s) (rd:=none) l s.length i u hu hl
      have hap:=v_append (σ:=[.pv 1 (s.map srow) false,.pv 1 [[.str u.name]] false]) (b:=0) (n:=s.length) (e:=1) (es:=1) (bytes:=16) (rows:=s.map srow) (new:=[[.str u.name]]) rfl (by simp) (.inl rfl) (by simp only [List.length_cons,List.length_nil];omega)
      unfold outerF isVar
      by_cases h1:u.op=24∨u.op=25
      rotate_left
      · refine ⟨fun s' he=>?_,?_⟩
        · simp only [h1,decide_false,Bool.false_eq_true,if_false,Sum.inl.injEq] at he
          subst he;omega
        · simp only [B0_r24_names,h1]
          simp (disch:=omega) only [eqY,↓gc_len,seval,-List.reduceReplicate,reduceCtorEq,allP,hlt,hui,List.length_map,q_r24_variable,hv,h1,e_n0,sS]
      · simp only [h1,decide_true,if_true]
        cases hf:foldE (innerF u) 0 false (l.take i) with
        | inr x=>
          rw [hf] at hL
          obtain ⟨⟨e,τ',σ',nt',rd'⟩,k1,k2,k3,k4⟩:=hL
          simp only at k2 k3 k4
          subst k2
          refine ⟨fun s' he=>(by cases he),?_⟩
          simp only [B0_r24_names]
          simp (disch:=omega) only [eqY,↓gc_len,seval,-List.reduceReplicate,reduceCtorEq,allP,hlt,hui,List.length_map,q_r24_variable,hv,h1,e_n0,sS,k1_r24_names,k1,retN,k3,k4]
        | inl again=>
          rw [hf] at hL
          have hL':loopAt P L1_r24_names (e_n1 l s.length i false 0) (sS s) 82 none=_:=hL
          refine ⟨fun s' he=>?_,?_⟩
          · simp only [Sum.inl.injEq] at he
            subst he
            split
            · omega
            · rw [List.length_append];simp only [List.length_cons,List.length_nil];omega
          · cases again with
            | true=>
              simp only [B0_r24_names]
              simp (disch:=omega) only [eqY,↓gc_len,seval,-List.reduceReplicate,reduceCtorEq,allP,hlt,hui,List.length_map,q_r24_variable,hv,h1,e_n0,sS,k1_r24_names,hL']
            | false=>
              simp only [B0_r24_names]
              simp (disch:=omega) only [eqY,↓gc_len,seval,-List.reduceReplicate,reduceCtorEq,allP,hlt,hui,hui2,List.length_map,q_r24_variable,hv,h1,e_n0,sS,k1_r24_names,hL',hap,List.map_append,List.length_append,srow]) (fun s hs=>by
      simp only [B0_r24_names]
      simp (disch:=omega) only [eqY,↓gc_len,seval,-List.reduceReplicate,reduceCtorEq,allP,Int.lt_irrefl,List.length_map]) (fun i s=>rfl) [] (by simp)
  exact h
theorem s_r24_names (t:Term) (hc:t.count≤1000000):R P f_r24_names [.agg t.row]=some (match foldE (outerF t.pre) 0 [] t.pre with
    | .inl s=>.tup [.lst (s.map srow),.bool true]
    | .inr _=>.tup [.lst [],.bool false]):=by
  have hp:=s_r24_Preorder t hc
  have hL:=l0_names t.pre (by rw [Term.pre_len];omega)
  cases hf:foldE (outerF t.pre) 0 [] t.pre with
  | inl s=>
    rw [hf] at hL
    have hL':loopAt P L0_r24_names [(4,.p (.lst (t.pre.map Term.row))),(5,.sl 0 0),(6,.p (.int .i64 0))] [.pv 1 [] false] 82 none=_:=hL
    (rw [r_r24_names (lbY rfl),F_r24_names];simp (disch:=omega) only [eqY,↓gc_len,seval,-List.reduceReplicate,reduceCtorEq,allP,q_r24_Preorder,hp,k0_r24_names,hL',List.length_map])
  | inr x=>
    rw [hf] at hL
    obtain ⟨⟨e,τ',σ',nt',rd'⟩,k1,k2,k3,k4⟩:=hL
    simp only at k2 k3 k4
    subst k2
    have hL':loopAt P L0_r24_names [(4,.p (.lst (t.pre.map Term.row))),(5,.sl 0 0),(6,.p (.int .i64 0))] [.pv 1 [] false] 82 none=some (.ret,⟨τ',σ',nt',rd'⟩):=k1
    (rw [r_r24_names (lbY rfl),F_r24_names];simp (disch:=omega) only [eqY,↓gc_len,seval,-List.reduceReplicate,reduceCtorEq,allP,q_r24_Preorder,hp,k0_r24_names,hL',k3,k4])
def clash (u a:Term):Bool:=isVar a && decide (a.name=u.name) && (!decide (a.w=u.w) || !decide (a.op=u.op))
def twin (u a:Term):Bool:=isVar a && decide (a.name=u.name)
theorem fold_inner (u:Term):∀ (l:List Term) (i:Nat) (s:Bool),foldE (innerF u) i s l=if l.any (clash u)=true then .inr () else .inl (s || l.any (twin u))
  | [],i,s=>by simp [foldE]
  | a :: l,i,s=>by
    by_cases h1:isVar a=true∧a.name=u.name
    · have ht:twin u a=true:=by simp [twin,h1.1,h1.2]
      by_cases h2:¬ a.w=u.w∨¬ a.op=u.op
      · have hc:clash u a=true:=by
          simp only [clash,h1.1,h1.2,decide_true,Bool.and_self,Bool.true_and,Bool.or_eq_true,Bool.not_eq_true',decide_eq_false_iff_not]
          exact h2
        have e:innerF u i s a=.inr ():=by rw [innerF,if_pos h1,if_pos h2]
        simp only [foldE,e,List.any_cons,hc,Bool.true_or,if_true]
      · have hc:clash u a=false:=by
          rw [not_or,Decidable.not_not,Decidable.not_not] at h2
          simp [clash,h2.1,h2.2]
        have e:innerF u i s a=.inl true:=by rw [innerF,if_pos h1,if_neg h2]
        simp only [foldE,e,List.any_cons,hc,ht,Bool.false_or,Bool.true_or,Bool.or_true]
        exact fold_inner u l (i+1) true
    · have ht:twin u a=false:=by
        rw [Bool.eq_false_iff]
        simpa [twin] using h1
      have hc:clash u a=false:=by
        have:=ht
        simp only [twin] at this
        simp [clash,this]
      have e:innerF u i s a=.inl s:=by rw [innerF,if_neg h1]
      simp only [foldE,e,List.any_cons,hc,ht,Bool.false_or]
      exact fold_inner u l (i+1) s
structure Inv (pre:List Term) (es:List (ByteArray×Term)) (out:List ByteArray):Prop where
  names:es.map (·.1)=out
  ents:∀ e∈es,isVar e.2=true∧e.2.name=e.1∧e.2∈pre
  all:∀ a∈pre,isVar a=true→∃ o,lkB es a.name=some o∧o.op=a.op∧o.w=a.w
theorem lk_mem {es:List (ByteArray×Term)} {k:ByteArray} {o:Term} (h:lkB es k=some o):(k,o)∈es:=by
  induction es with
  | nil=>cases h
  | cons e r ih=>
    simp only [lkB] at h
    split at h
    · rename_i hk
      cases h
      rw [hk];simp
    · exact List.mem_cons_of_mem _ (ih h)
theorem st_none {es:List (ByteArray×Term)} {u:Term} (h:lkB es u.name=none):stB u es=es++[(u.name,u)]:=by
  induction es with
  | nil=>rfl
  | cons e r ih=>
    simp only [lkB] at h
    split at h
    · cases h
    · rename_i hk
      simp only [stB,hk,if_false,ih h,List.cons_append]
theorem st_names {es:List (ByteArray×Term)} {u o:Term} (h:lkB es u.name=some o):(stB u es).map (·.1)=es.map (·.1):=by
  induction es with
  | nil=>cases h
  | cons e r ih=>
    simp only [lkB] at h
    simp only [stB]
    split at h
    · rename_i hk
      simp [hk]
    · rename_i hk
      simp only [hk,if_false,List.map_cons,ih h]
theorem st_mem {es:List (ByteArray×Term)} {u:Term} {e:ByteArray×Term} (h:e∈stB u es):e=(u.name,u)∨e∈es:=by
  induction es with
  | nil=>simp [stB] at h;exact .inl h
  | cons x r ih=>
    simp only [stB] at h
    split at h
    · rcases List.mem_cons.1 h with h | h
      · exact .inl h
      · exact .inr (by simp [h])
    · rcases List.mem_cons.1 h with h | h
      · exact .inr (by simp [h])
      · rcases ih h with h | h
        · exact .inl h
        · exact .inr (by simp [h])
theorem lk_st {es:List (ByteArray×Term)} {u:Term} {k:ByteArray}:lkB (stB u es) k=if k=u.name then some u else lkB es k:=by
  induction es with
  | nil=>simp [stB,lkB]
  | cons e r ih=>
    simp only [stB]
    by_cases h:u.name=e.1
    · rw [if_pos h]
      simp only [lkB]
      by_cases hk:k=u.name
      · simp [hk]
      · simp [hk,show ¬ k=e.1 from fun x=>hk (x.trans h.symm)]
    · rw [if_neg h]
      simp only [lkB,ih]
      by_cases hk:k=e.1
      · rw [if_pos hk,if_neg (fun x=>h (x.symm.trans hk)),if_pos hk]
      · rw [if_neg hk,if_neg hk]
theorem bind_names (l:List Term):∀ (r pre:List Term) (es:List (ByteArray×Term)) (out:List ByteArray) (i:Nat),l=pre++r→Inv pre es out →
    match foldE (fun _ s u=>bindF s u) i es r,foldE (outerF l) pre.length out r with
    | .inl s,.inl o=>s.length=o.length
    | .inr _,.inr _=>True
    | _,_=>False
  | [],pre,es,out,i,_,hI=>by
    simp only [foldE]
    rw [← hI.names,List.length_map]
  | u :: r,pre,es,out,i,hl,hI=>by
    simp only [foldE]
    have htk:l.take pre.length=pre:=by rw [hl];simp
    have next:∀ es' out',Inv (pre++[u]) es' out'→match foldE (fun _ s u=>bindF s u) (i+1) es' r,foldE (outerF l) (pre.length+1) out' r with
        | .inl s,.inl o=>s.length=o.length
        | .inr _,.inr _=>True
        | _,_=>False:=by
      intro es' out' hI'
      have:=bind_names l r (pre++[u]) es' out' (i+1) (by rw [hl];simp) hI'
      simpa using this
    cases hv:isVar u with
    | false=>
      have e1:bindF es u=.inl es:=by simp [bindF,hv]
      have e2:outerF l pre.length out u=.inl out:=by simp [outerF,hv]
      rw [e1,e2]
      refine next es out ⟨hI.names,fun e he=>?_,fun a ha hva=>?_⟩
      · obtain ⟨h1,h2,h3⟩:=hI.ents e he
        exact ⟨h1,h2,by simp [h3]⟩
      · rcases List.mem_append.1 ha with ha | ha
        · exact hI.all a ha hva
        · simp only [List.mem_singleton] at ha
          rw [ha,hv] at hva;cases hva
    | true=>
      have hin:=fold_inner u pre 0 false
      have e2:outerF l pre.length out u=match foldE (innerF u) 0 false pre with
          | .inr _=>.inr ()
          | .inl again=>.inl (if again=true then out else out++[u.name]):=by
        (simp only [outerF,hv,if_true,htk])<;>rfl
      have e1:bindF es u=match lkB es u.name with
          | some o=>if o.op=u.op∧o.w=u.w then .inl (stB u es) else .inr es
          | none=>.inl (stB u es):=by (simp only [bindF,hv,if_true])<;>rfl
      rw [e1,e2,hin]
      cases hk:lkB es u.name with
      | none=>
        have hno:∀ a∈pre,twin u a=false:=by
          intro a ha
          rw [Bool.eq_false_iff]
          intro ht
          simp only [twin,Bool.and_eq_true,decide_eq_true_eq] at ht
          obtain ⟨o,ho,_⟩:=hI.all a ha ht.1
          rw [ht.2,hk] at ho
          cases ho
        have h1:pre.any (clash u)=false:=by
          rw [List.any_eq_false]
          intro a ha
          have:=hno a ha
          simp only [twin] at this
          simp [clash,this]
        have h2:pre.any (twin u)=false:=by
          rw [List.any_eq_false]
          intro a ha
          simp [hno a ha]
        simp only [h1,h2,Bool.false_eq_true,if_false,Bool.or_self]
        refine next _ _ ⟨?_,fun e he=>?_,fun a ha hva=>?_⟩
        · rw [st_none hk,List.map_append,hI.names];rfl
        · rcases st_mem he with rfl | he
          · exact ⟨hv,rfl,by simp⟩
          · obtain ⟨h1,h2,h3⟩:=hI.ents e he
            exact ⟨h1,h2,by simp [h3]⟩
        · rw [lk_st]
          rcases List.mem_append.1 ha with ha | ha
          · by_cases hn:a.name=u.name
            · have:=hno a ha
              simp [twin,hva,hn] at this
            · rw [if_neg hn]
              exact hI.all a ha hva
          · simp only [List.mem_singleton] at ha
            subst ha
            rw [if_pos rfl]
            exact ⟨_,rfl,rfl,rfl⟩
      | some o=>
        obtain ⟨o1,o2,o3⟩:=hI.ents _ (lk_mem hk)
        simp only at o1 o2 o3
        by_cases ho:o.op=u.op∧o.w=u.w
        · have h1:pre.any (clash u)=false:=by
            rw [List.any_eq_false]
            intro a ha hc
            simp only [clash,Bool.and_eq_true,decide_eq_true_eq,Bool.or_eq_true,Bool.not_eq_true',decide_eq_false_iff_not] at hc
            obtain ⟨o',h1,h2,h3⟩:=hI.all a ha hc.1.1
            rw [hc.1.2,hk] at h1
            cases h1
            rcases hc.2 with h | h
            · exact h (h3.symm.trans ho.2)
            · exact h (h2.symm.trans ho.1)
          have h2:pre.any (twin u)=true:=by
            rw [List.any_eq_true]
            exact ⟨o,o3,by simp [twin,o1,o2]⟩
          simp only [h1,h2,Bool.false_eq_true,if_false,Bool.or_true,if_true,ho,and_self]
          refine next _ _ ⟨?_,fun e he=>?_,fun a ha hva=>?_⟩
          · rw [st_names hk];exact hI.names
          · rcases st_mem he with rfl | he
            · exact ⟨hv,rfl,by simp⟩
            · obtain ⟨h1,h2,h3⟩:=hI.ents e he
              exact ⟨h1,h2,by simp [h3]⟩
          · rw [lk_st]
            rcases List.mem_append.1 ha with ha | ha
            · by_cases hn:a.name=u.name
              · rw [if_pos hn]
                obtain ⟨o',k1,k2,k3⟩:=hI.all a ha hva
                rw [hn,hk] at k1
                cases k1
                exact ⟨_,rfl,ho.1.symm.trans k2,ho.2.symm.trans k3⟩
              · rw [if_neg hn]
                exact hI.all a ha hva
            · simp only [List.mem_singleton] at ha
              subst ha
              rw [if_pos rfl]
              exact ⟨_,rfl,rfl,rfl⟩
        · have h1:pre.any (clash u)=true:=by
            rw [List.any_eq_true]
            refine ⟨o,o3,?_⟩
            simp only [clash,o1,o2,decide_true,Bool.and_self,Bool.true_and,Bool.or_eq_true,Bool.not_eq_true',decide_eq_false_iff_not]
            by_cases hw:o.w=u.w
            · exact .inr fun h=>ho ⟨h,hw⟩
            · exact .inl hw
          simp only [h1,if_true,ho,if_false]
abbrev e_CheckR (t:Term) (ev:Bool) (i:Int):List (Nat×AV):=[(1,.p (.bool ev)),(2,.p (.ptr t.row 0)),(5,.p (.lst (t.post.map Term.row))),(6,.p (.int .i64 i))]
theorem fold_first (ev:Bool):∀ (l:List Term) (i:Nat),doneP (fun _=>firstE ev l=0) (fun e=>firstE ev l=e∧e≠0) (foldE (S:=Unit) (T:=Int) (fun _ _ a=>if nodeE a ev=0 then .inl () else .inr (nodeE a ev)) i () l)
  | [],i=>rfl
  | a :: l,i=>by
    simp only [foldE,firstE]
    by_cases h:nodeE a ev=0
    · simp only [h,if_true];exact fold_first ev l (i+1)
    · simp only [h,if_false];exact ⟨rfl,h⟩
theorem tok_post {t:Term}:TOk t→t.count≤1000000→∀ a∈t.post,TOk a∧a.count≤1000000:=by
  induction t using Term.ind with
  | h t ih=>
  intro ht hc a ha
  rw [Term.post_eq,Term.posts_eq] at ha
  rcases List.mem_append.1 ha with ha | ha
  · obtain ⟨b,hb,hab⟩:=List.mem_flatMap.1 ha
    have:=Term.counts_mem hb
    have:=Term.count_eq t
    exact ih b hb (ht.args hb) (by omega) a hab
  · simp only [List.mem_singleton] at ha
    subst ha
    exact ⟨ht,hc⟩
theorem s_r24_Check (p:Term) (ev:Bool) (ht:TOk p) (hc:p.count≤1000000):R P f_r24_Check [.agg p.row,.bool ev]=some (.int .i64 (checkE p ev)):=by
  have h1:=s_r10_Small p ht 4096 (by omega) (by omega)
  have h2:=s_r07_Deep p ht 64 (by omega)
  have hpo:=s_r24_Postorder p hc
  have hpl:=Term.post_len p
  unfold checkE
  by_cases g1:(p.count:Int)≤4096
  rotate_left
  · rw [if_pos (by omega)]
    (rw [r_r24_Check (lbY rfl),F_r24_Check];simp (disch:=omega) only [eqY,↓gc_len,seval,-List.reduceReplicate,reduceCtorEq,allP,q_r10_Small,h1,g1])
  by_cases g2:(64:Int)<p.deep
  · rw [if_pos (by omega)]
    (rw [r_r24_Check (lbY rfl),F_r24_Check];simp (disch:=omega) only [eqY,↓gc_len,seval,-List.reduceReplicate,reduceCtorEq,allP,q_r10_Small,h1,g1,q_r07_Deep,h2,g2])
  rw [if_neg (by omega)]
  have h:=loop_foldE (P:=P) (nt:=44) (rd:=none) (lv:=[1,2,5,6]) (b:=B0_r24_Check) (x:=0) (as:=p.post) (fun i (_:Unit)=>e_CheckR p ev i) (fun _=>[]) (fun _ _ a=>if nodeE a ev=0 then .inl () else .inr (nodeE a ev))
    (fun s=>⟨upd (upd (upd (upd (tm (e_CheckR p ev p.post.length)) 19 (.p (.int .i64 p.post.length))) 20 (.p (.lst (p.post.map Term.row)))) 21 (.p (.int .i64 p.post.length))) 22 (.p (.bool false)),[],44,none⟩) (fun e=>ret1 4 (.int .i64 e) []) (fun _ _=>True)
    (fun i a s ha hi hs=>by
      refine ⟨fun _ _=>trivial,?_⟩
      obtain ⟨hta,hca⟩:=tok_post ht hc a (List.mem_of_getElem? ha)
      have hr:=s_r24_node a ev hta hca
      have hlt:((i:Int)<p.post.length)=True:=by simpa using hi
      by_cases hf:nodeE a ev=0
      · simp only [B0_r24_Check]
        simp (disch:=omega) only [eqY,↓gc_len,seval,-List.reduceReplicate,reduceCtorEq,allP,hlt,List.length_map,v_iadr (map_get (f:=Term.row) ha) a.row_len,q_r24_node,hr,eq_true hf]
      · simp only [B0_r24_Check]
        simp (disch:=omega) only [eqY,↓gc_len,seval,-List.reduceReplicate,reduceCtorEq,allP,hlt,List.length_map,v_iadr (map_get (f:=Term.row) ha) a.row_len,q_r24_node,hr,hf,ret1]) (fun s hs=>by
      simp only [B0_r24_Check]
      simp (disch:=omega) only [eqY,↓gc_len,seval,-List.reduceReplicate,reduceCtorEq,allP,Int.lt_irrefl,List.length_map]) (fun i s=>rfl) () trivial
  have hf:=fold_first ev p.post 0
  cases hfe:foldE (S:=Unit) (T:=Int) (fun _ _ a=>if nodeE a ev=0 then .inl () else .inr (nodeE a ev)) 0 () p.post with
  | inr e=>
    rw [hfe] at h hf
    obtain ⟨⟨e',τ',σ',nt',rd'⟩,k1,k2,k3,k4⟩:=h
    simp only at k2 k3 k4
    subst k2;subst k4
    have h':loopAt P L0_r24_Check (e_CheckR p ev 0) [] 44 none=some (.ret,⟨τ',[],nt',rd'⟩):=k1
    have hf':firstE ev p.post=e∧e≠0:=hf
    rw [hf'.1,if_pos hf'.2]
    (rw [r_r24_Check (lbY rfl),F_r24_Check];simp (disch:=omega) only [eqY,↓gc_len,seval,-List.reduceReplicate,reduceCtorEq,allP,q_r10_Small,h1,g1,q_r07_Deep,h2,g2,q_r24_Postorder,hpo,k0_r24_Check,h',k3])
  | inl s=>
    rw [hfe] at h hf
    have h':loopAt P L0_r24_Check (e_CheckR p ev 0) [] 44 none=_:=h
    have hf':firstE ev p.post=0:=hf
    rw [if_neg (by simpa using hf')]
    have hnm:=s_r24_names p hc
    have hbn:=bind_names p.pre p.pre [] [] [] 0 rfl ⟨rfl,by simp,by simp⟩
    simp only [List.length_nil] at hbn
    cases hb:foldE (fun _ s u=>bindF s u) 0 [] p.pre with
    | inr x=>
      rw [hb] at hbn
      cases ho:foldE (outerF p.pre) 0 [] p.pre with
      | inl y=>rw [ho] at hbn;exact hbn.elim
      | inr y=>
        rw [ho] at hnm
        (rw [r_r24_Check (lbY rfl),F_r24_Check];simp (disch:=omega) only [eqY,↓gc_len,seval,-List.reduceReplicate,reduceCtorEq,allP,q_r10_Small,h1,g1,q_r07_Deep,h2,g2,q_r24_Postorder,hpo,k0_r24_Check,h',q_r24_names,hnm])
    | inl s=>
      rw [hb] at hbn
      cases ho:foldE (outerF p.pre) 0 [] p.pre with
      | inr y=>rw [ho] at hbn;exact hbn.elim
      | inl y=>
        rw [ho] at hnm hbn
        simp only at hbn hnm
        simp only
        by_cases g4:(16:Int)<y.length
        · rw [if_pos (by omega)]
          (rw [r_r24_Check (lbY rfl),F_r24_Check];simp (disch:=omega) only [eqY,↓gc_len,seval,-List.reduceReplicate,reduceCtorEq,allP,q_r10_Small,h1,g1,q_r07_Deep,h2,g2,q_r24_Postorder,hpo,k0_r24_Check,h',q_r24_names,hnm,List.length_map,g4])
        · rw [if_neg (by omega)]
          (rw [r_r24_Check (lbY rfl),F_r24_Check];simp (disch:=omega) only [eqY,↓gc_len,seval,-List.reduceReplicate,reduceCtorEq,allP,q_r10_Small,h1,g1,q_r07_Deep,h2,g2,q_r24_Postorder,hpo,k0_r24_Check,h',q_r24_names,hnm,List.length_map,g4])
end Go.AE.S
namespace Go.AE
namespace Term
end Term
namespace S
open Go Go.AE
set_option linter.unusedSimpArgs false
set_option linter.unusedVariables false
variable {τ:Tm} {σ:Store} {rd:Option Nat}
abbrev z5 (l:Nat):List AV:=[.p (.int .i64 0),.p (.int .i64 0),.p (.int .u64 0),.p (.str (bs [])),.sl l 0]
end S
end Go.AE
namespace Go.AE.S
open Go Go.AE
set_option linter.unusedSimpArgs false
set_option linter.unusedVariables false
variable {τ:Tm} {σ:Store} {rd:Option Nat}
def zT:Term:=.mk 0 0 0 (bs []) []
theorem zT_row:zT.row=[.int .i64 0,.int .i64 0,.int .u64 0,.str (bs []),.lst []]:=by simp [zT,Term.row,Term.rows]
theorem less_irrefl:∀ a:List UInt8,Op.bytesLess a a=false
  | []=>rfl
  | a :: l=>by
    unfold Op.bytesLess
    simp [less_irrefl l,UInt8.lt_irrefl]
theorem less_trans:∀ a b c:List UInt8,Op.bytesLess a b=true→Op.bytesLess b c=true→Op.bytesLess a c=true
  | _,_,[],_,h=>by cases ‹List UInt8›<;>simp [Op.bytesLess] at h
  | _,[],_ :: _,h,_=>by cases ‹List UInt8›<;>simp [Op.bytesLess] at h
  | [],_ :: _,_ :: _,_,_=>rfl
  | a :: x,b :: y,c :: z,h,h'=>by
    unfold Op.bytesLess at h h' ⊢
    simp only [Bool.or_eq_true,decide_eq_true_eq,Bool.and_eq_true,beq_iff_eq] at h h' ⊢
    rcases h with h | ⟨rfl,h⟩
    · rcases h' with h' | ⟨rfl,h'⟩
      · exact .inl (UInt8.lt_trans h h')
      · exact .inl h
    · rcases h' with h' | ⟨rfl,h'⟩
      · exact .inl h'
      · exact .inr ⟨rfl,less_trans x y z h h'⟩
theorem less_tri:∀ a b:List UInt8,Op.bytesLess a b=true∨a=b∨Op.bytesLess b a=true
  | [],[]=>.inr (.inl rfl)
  | [],_ :: _=>.inl rfl
  | _ :: _,[]=>.inr (.inr rfl)
  | a :: x,b :: y=>by
    unfold Op.bytesLess
    simp only [Bool.or_eq_true,decide_eq_true_eq,Bool.and_eq_true,beq_iff_eq,List.cons.injEq]
    rcases less_tri x y with h | h | h
    · by_cases h1:a<b
      · exact .inl (.inl h1)
      · by_cases h2:b<a
        · exact .inr (.inr (.inl h2))
        · have:a=b:=UInt8.le_antisymm (UInt8.not_lt.1 h2) (UInt8.not_lt.1 h1)
          exact .inl (.inr ⟨this,h⟩)
    · by_cases h1:a<b
      · exact .inl (.inl h1)
      · by_cases h2:b<a
        · exact .inr (.inr (.inl h2))
        · have:a=b:=UInt8.le_antisymm (UInt8.not_lt.1 h2) (UInt8.not_lt.1 h1)
          exact .inr (.inl ⟨this,h⟩)
    · by_cases h1:a<b
      · exact .inl (.inl h1)
      · by_cases h2:b<a
        · exact .inr (.inr (.inl h2))
        · have:a=b:=UInt8.le_antisymm (UInt8.not_lt.1 h2) (UInt8.not_lt.1 h1)
          exact .inr (.inr (.inr ⟨this.symm,h⟩))
theorem slt_irrefl (a:ByteArray):slt a a=false:=less_irrefl _
theorem slt_trans {a b c:ByteArray} (h:slt a b=true) (h':slt b c=true):slt a c=true:=less_trans _ _ _ h h'
theorem slt_tri (a b:ByteArray):slt a b=true∨a=b∨slt b a=true:=by
  rcases less_tri a.toList b.toList with h | h | h
  · exact .inl h
  · exact .inr (.inl (bytes_ext.1 h))
  · exact .inr (.inr h)
theorem slt_ne {a b:ByteArray} (h:slt a b=true):¬ a=b:=by rintro rfl;rw [slt_irrefl] at h;cases h
theorem slt_asym {a b:ByteArray} (h:slt a b=true):slt b a=false:=by
  rw [Bool.eq_false_iff];intro h';have:=slt_trans h h';rw [slt_irrefl] at this;cases this
theorem cmp_cases (a b:ByteArray):cmpStr a b=if a=b then 0 else if slt a b=true then -1 else 1:=by
  unfold cmpStr slt
  by_cases h:a=b
  · rw [if_pos (bytes_ext.2 h),if_pos h]
  · rw [if_neg (fun x=>h (bytes_ext.1 x)),if_neg h]
def Sorted (s:List V2):Prop:=s.Pairwise fun a b=>slt a.name b.name=true
abbrev names (s:List V2):List ByteArray:=s.map (·.name)
def insV:List V2→V2→List V2
  | [],v=>[v]
  | a :: r,v=>if a.name=v.name then a :: r else if slt v.name a.name=true then v :: a :: r else a :: insV r v
theorem insV_len:∀ (s:List V2) (v:V2),(insV s v).length≤s.length+1
  | [],v=>by simp [insV]
  | a :: r,v=>by
    simp only [insV]
    have:=insV_len r v
    split
    · simp
    · split
      · simp
      · simp only [List.length_cons];omega
theorem insV_mem:∀ {s:List V2} {v x:V2},x∈insV s v→x=v∨x∈s
  | [],v,x,h=>by simp [insV] at h;exact .inl h
  | a :: r,v,x,h=>by
    simp only [insV] at h
    split at h
    · exact .inr h
    · split at h
      · rcases List.mem_cons.1 h with h | h
        · exact .inl h
        · exact .inr h
      · rcases List.mem_cons.1 h with h | h
        · exact .inr (by simp [h])
        · rcases insV_mem h with h | h
          · exact .inl h
          · exact .inr (by simp [h])
theorem insV_sorted:∀ {s:List V2} {v:V2},Sorted s→Sorted (insV s v)
  | [],v,_=>by simp [insV,Sorted]
  | a :: r,v,h=>by
    have hr:Sorted r:=(List.pairwise_cons.1 h).2
    have ha:=(List.pairwise_cons.1 h).1
    simp only [insV]
    split
    · exact h
    · rename_i h1
      split
      · rename_i h2
        refine List.pairwise_cons.2 ⟨fun x hx=>?_,h⟩
        rcases List.mem_cons.1 hx with rfl | hx
        · exact h2
        · exact slt_trans h2 (ha x hx)
      · rename_i h2
        refine List.pairwise_cons.2 ⟨fun x hx=>?_,insV_sorted hr⟩
        rcases insV_mem hx with rfl | hx
        · rcases slt_tri a.name x.name with h | h | h
          · exact h
          · exact absurd h h1
          · exact absurd h h2
        · exact ha x hx
def tL:Term:=.mk 8 4 0 (bs []) [.mk 24 4 0 (bs [98]) [],.mk 24 4 0 (bs [97]) []]
theorem tok_leaf {o w v:Int} {s:ByteArray} (h1 : -9223372036854775808≤o∧o≤9223372036854775807) (h2 : -9223372036854775808≤w∧w≤9223372036854775807) (h3:U64 v) (h4:s.size≤9223372036854775807):TOk (.mk o w v s []) :=
  .mk _ h1 h2 h3 h4 (by simp [Term.args]) (by simp [Term.args])
end Go.AE.S
