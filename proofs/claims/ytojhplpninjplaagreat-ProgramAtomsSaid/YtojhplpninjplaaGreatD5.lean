import Derived.Test.YtojhplpninjplaaGreatD4
namespace Go.AE.S
open Go Go.AE
set_option linter.unusedSimpArgs false
set_option linter.unusedVariables false
variable {τ:Tm} {σ:Store} {rd:Option Nat}
def okA (a:Atom):Bool:=decide ((a.pat.deep:Int)≤12∧(a.pat.count:Int)≤20) && decide ((a.root.size:Int)≤100)
def lightA (l:List Atom):Bool:=decide ((l.length:Int)≤6) && l.all okA
theorem fold_okA:∀ (l:List Atom) (i:Nat),foldE (S:=Unit) (T:=Unit) (fun _ _ a=>if okA a=true then .inl () else .inr ()) i () l=if l.all okA=true then .inl () else .inr ()
  | [],i=>rfl
  | a :: l,i=>by
    unfold foldE
    cases h:okA a with
    | true=>
      simp only [if_true,List.all_cons,h,Bool.true_and]
      exact fold_okA l (i+1)
    | false=>simp [h]
theorem ce_T {t:Term}:cellsOf 5 true (.p (.agg t.row))=some (t.row.map .p):=by simp [cellsOf,t.row_len]
set_option maxHeartbeats 8000000 in
theorem l_Light (l:List Atom) (hl:l.length≤1000000) (ht:∀ a∈l,TOk a.pat) :
    doneP (fun _:Unit=>True∧loopAt P L0_r25_Light [(0,.p (.lst (l.map Atom.row))),(3,.p (.int .i64 0))] [] 35 none=back P [0,3] B0_r25_Light 0 (exec P B0_r25_Light ⟨tm [(0,.p (.lst (l.map Atom.row))),(3,.p (.int .i64 l.length))],[],35,none⟩)) (fun _:Unit=>∃ r,loopAt P L0_r25_Light [(0,.p (.lst (l.map Atom.row))),(3,.p (.int .i64 0))] [] 35 none=some r∧ret1 2 (.bool false) [] r) (if l.all okA=true then .inl () else .inr ()):=by
  have h:=loop_to (P:=P) (nt:=35) (rd:=none) (lv:=[0,3]) (b:=B0_r25_Light) (as:=l) (fun i (_:Unit)=>[(0,.p (.lst (l.map Atom.row))),(3,.p (.int .i64 (i:Int)))]) (fun _=>[]) (fun _ _ a=>if okA a=true then .inl () else .inr ())
    (fun _=>ret1 2 (.bool false) []) (fun _ _=>True)
    (fun i a s ha hi hs=>by
      refine ⟨fun _ _=>trivial,?_⟩
      have hma:=List.mem_of_getElem? ha
      have hlt:((i:Int)<l.length)=True:=by simpa using hi
      have hx:=fun σ=>v_iadr (k:=.i64) (es:=6) (σ:=σ) (map_get (f:=Atom.row) ha) a.row_len
      have hL:=s_r06_Light a.pat (ht a hma) 12 20 (by omega) (by omega)
      unfold lightV at hL
      unfold okA
      by_cases h1:(a.pat.deep:Int)≤12∧(a.pat.count:Int)≤20
      · rw [if_pos h1] at hL
        rw [decide_eq_true h1,Bool.true_and]
        by_cases h2:(a.root.size:Int)≤100
        · have h3:((a.root.size:Int) > 100)=False:=by simp;omega
          rw [decide_eq_true h2]
          simp only [if_true]
          simp only [B0_r25_Light]
          simp (disch:=omega) only [eqZ,↓gc_len,seval,-List.reduceReplicate,reduceCtorEq,allP,hlt,hx,List.length_map,a_load,a_cells,a_root,a_pat,q_r06_Light,hL,ce_T,h3,ret1]
        · have h3:((a.root.size:Int) > 100)=True:=by simp;omega
          rw [decide_eq_false h2]
          simp only [Bool.false_eq_true,if_false]
          simp only [B0_r25_Light]
          simp (disch:=omega) only [eqZ,↓gc_len,seval,-List.reduceReplicate,reduceCtorEq,allP,hlt,hx,List.length_map,a_load,a_cells,a_root,a_pat,q_r06_Light,hL,ce_T,h3,ret1]
      · rw [if_neg h1] at hL
        rw [decide_eq_false h1,Bool.false_and]
        simp only [Bool.false_eq_true,if_false]
        simp only [B0_r25_Light]
        simp (disch:=omega) only [eqZ,↓gc_len,seval,-List.reduceReplicate,reduceCtorEq,allP,hlt,hx,List.length_map,a_load,a_cells,a_root,a_pat,q_r06_Light,hL,ce_T,ret1]) (fun i s=>rfl) () trivial
  rw [fold_okA] at h
  exact h
theorem s_r25_Light (l:List Atom) (ht:∀ a∈l,TOk a.pat):R P f_r25_Light [.lst (l.map Atom.row)]=some (.bool (lightA l)):=by
  unfold lightA
  by_cases g:(l.length:Int)≤6
  · have g':((l.length:Int) > 6)=False:=by simp;omega
    have h:=l_Light l (by omega) ht
    rw [decide_eq_true g,Bool.true_and]
    cases hc:l.all okA with
    | true=>
      rw [hc] at h
      obtain ⟨_,h⟩:=h
      (rw [r_r25_Light (lbY rfl),F_r25_Light];simp (disch:=omega) only [eqZ,↓gc_len,seval,-List.reduceReplicate,reduceCtorEq,allP,List.length_map,g',k0_r25_Light,h,B0_r25_Light,Int.lt_irrefl])
    | false=>
      rw [hc] at h
      obtain ⟨⟨e',τ',σ',nt',rd'⟩,k1,k2,k3,k4⟩:=h
      simp only at k2 k3 k4
      subst k2
      (rw [r_r25_Light (lbY rfl),F_r25_Light];simp (disch:=omega) only [eqZ,↓gc_len,seval,-List.reduceReplicate,reduceCtorEq,allP,List.length_map,g',k0_r25_Light,k1,k3,k4])
  · have g':((l.length:Int) > 6)=True:=by simp;omega
    rw [decide_eq_false g,Bool.false_and]
    (rw [r_r25_Light (lbY rfl),F_r25_Light];simp (disch:=omega) only [eqZ,↓gc_len,seval,-List.reduceReplicate,reduceCtorEq,allP,List.length_map,g'])
abbrev e_svs (l:List V2) (i:Int):List (Nat×AV):=[(0,.p (.lst (l.map vrow))),(1,.p (.lst (l.map vrow))),(5,.p (.int .i64 i))]
theorem v_ldv {v:V2}:loadV σ 2 true (.p (.ptr (vrow v) 0))=some (.p (.agg (vrow v))):=rfl
theorem v_eqv {v:V2}:eqAV true [.str,.int] (.p (.agg (vrow v))) (.p (.agg (vrow v)))=some (.p (.bool false)):=by
  simp [eqAV,vrow,eqCells,eqLeaf]
theorem fold_u {α:Type}:∀ (l:List α) (i:Nat),foldE (S:=Unit) (T:=Empty) (fun _ _ _=>.inl ()) i () l=.inl ()
  | [],_=>rfl
  | _ :: l,i=>fold_u l (i+1)
theorem s_r06_SameVars (l:List V2) (hl:l.length≤1000000):R P f_r06_SameVars [.lst (l.map vrow),.lst (l.map vrow)]=some (.bool true):=by
  obtain ⟨_,h⟩:=loop_run (P:=P) (nt:=26) (lv:=[0,1,5]) (b:=B0_r06_SameVars) (rd:=none) (as:=l) (fun i (_:Unit)=>e_svs l i) (fun _=>[]) (fun _ _ _=>()) (fun _ _=>True)
    (fun i v s hv hi hs=>by
      refine ⟨trivial,?_⟩
      have hlt:((i:Int)<l.length)=True:=by simpa using hi
      have hx:=fun σ=>v_iadr (k:=.i64) (es:=2) (σ:=σ) (map_get (f:=vrow) hv) (by simp [vrow])
      simp only [B0_r06_SameVars]
      simp (disch:=omega) only [eqZ,↓gc_len,seval,-List.reduceReplicate,reduceCtorEq,allP,hlt,hx,v_ldv,v_eqv,e_svs,List.length_map]) (fun i s=>rfl) () trivial () (fold_u l 0)
  have h':loopAt P L0_r06_SameVars (e_svs l 0) [] 26 none=_:=h
  simp only [e_svs] at h'
  (rw [r_r06_SameVars (lbY rfl),F_r06_SameVars];simp (disch:=omega) only [eqZ,↓gc_len,seval,-List.reduceReplicate,reduceCtorEq,allP,List.length_map,k0_r06_SameVars,h',B0_r06_SameVars,Int.lt_irrefl])
theorem mentU_len (u:Term):(mentU u).length≤1:=by
  unfold mentU
  split
  · simp
  · split<;>simp
theorem flat_len {α β:Type} (f:α→List β) (k:Nat):∀ l:List α,(∀ a∈l,(f a).length≤k)→(l.flatMap f).length≤l.length*k
  | [],_=>by simp
  | a :: l,h=>by
    have h1:=flat_len f k l (fun x hx=>h x (by simp [hx]))
    have h2:=h a (by simp)
    simp only [List.flatMap_cons,List.length_append,List.length_cons,Nat.add_mul]
    omega
theorem mentT_len (t:Term):(mentT t).length≤t.count:=by
  have h:=flat_len mentU 1 t.pre (fun u _=>mentU_len u)
  rw [Term.pre_len] at h
  unfold mentT
  omega
theorem mentA_len (a:Atom):(mentA a).length≤1+a.pat.count:=by
  have h:=mentT_len a.pat
  unfold mentA mentR
  rw [List.length_append]
  split
  · simp;omega
  · simp;omega
set_option maxHeartbeats 8000000 in
theorem p_ProgramAtoms (l:List Atom) (ht:∀ a∈l,TOk a.pat):R P f_law25_ProgramAtoms [.lst (l.map Atom.row)]=some (.bool true):=by
  have hq:=s_r25_Light l ht
  have hv:=s_l25
  cases hc:lightA l with
  | false=>
    rw [hc] at hq
    (rw [r_law25_ProgramAtoms (lbY rfl),F_law25_ProgramAtoms];simp (disch:=omega) only [eqZ,↓gc_len,seval,-List.reduceReplicate,reduceCtorEq,allP,q_r25_Light,hq,q_law25_lives,hv])
  | true=>
    rw [hc] at hq
    unfold lightA at hc
    rw [Bool.and_eq_true,decide_eq_true_eq,List.all_eq_true] at hc
    have h20:∀ a∈l,a.pat.count≤20:=fun a ha=>by
      have:=hc.2 a ha
      unfold okA at this
      rw [Bool.and_eq_true,decide_eq_true_eq] at this
      omega
    have hT:∀ a∈l,TOk a.pat∧a.pat.count≤1000000:=fun a ha=>⟨ht a ha,by have:=h20 a ha;omega⟩
    have hm1:=flat_len mentA 21 l (fun a ha=>by have h1:=mentA_len a;have h2:=h20 a ha;omega)
    have hl6:l.length≤6:=by have:=hc.1;omega
    have hm2:l.length*21≤6*21:=Nat.mul_le_mul_right _ hl6
    have hm:(l.flatMap mentA).length≤1000000:=by omega
    have k1:=s_program_Names l (by omega) hm hT
    have k2:=s_r25_Names l (by omega) hm hT
    have k3:=s_program_CheckAtoms l (by omega) hm hT
    have k4:=s_r25_CheckAtoms l (by omega) hm hT
    rw [← atoms_eq] at k4
    rw [names_eq,names_eq] at k1
    have n0:=insM_len 0 (l.flatMap mentA)
    have n1:=insM_len 1 (l.flatMap mentA)
    have k5:=s_r06_SameVars (insM 0 (l.flatMap mentA)) (by omega)
    have k6:=s_r06_SameVars (insM 1 (l.flatMap mentA)) (by omega)
    (rw [r_law25_ProgramAtoms (lbY rfl),F_law25_ProgramAtoms];simp (disch:=omega) only [eqZ,↓gc_len,seval,-List.reduceReplicate,reduceCtorEq,allP,q_r25_Light,hq,q_law25_lives,hv,q_program_Names,k1,q_r25_Names,k2,q_program_CheckAtoms,k3,q_r25_CheckAtoms,k4,q_r06_SameVars,k5,k6])
end Go.AE.S
