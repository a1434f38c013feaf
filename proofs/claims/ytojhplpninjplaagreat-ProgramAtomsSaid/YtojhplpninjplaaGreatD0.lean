import Derived.Test.YtojhplpninjplaaGreatC2
namespace Go.AE.S
open Go Go.AE
set_option linter.unusedSimpArgs false
set_option linter.unusedVariables false
variable {τ:Tm} {σ:Store} {rd:Option Nat}
theorem flat_take {α β:Type} (f:α→List β):∀ (l:List α) (i:Nat) (a:α),l[i]? = some a→((l.take i).flatMap f).length+(f a).length≤(l.flatMap f).length
  | [],i,a,h=>by simp at h
  | b :: l,0,a,h=>by
    simp only [List.getElem?_cons_zero,Option.some.injEq] at h
    subst h
    simp only [List.take_zero,List.flatMap_nil,List.length_nil,List.flatMap_cons,List.length_append]
    omega
  | b :: l,i+1,a,h=>by
    have:=flat_take f l i a (by simpa using h)
    simp only [List.take_succ_cons,List.flatMap_cons,List.length_append]
    omega
theorem take_flat {α β:Type} (f:α→List β) {l:List α} {i:Nat} {a:α} (h:l[i]? = some a):(l.take (i+1)).flatMap f=(l.take i).flatMap f++f a:=by
  rw [List.take_add_one,h]
  simp
theorem fold_flat {α β:Type} (g:α→List β):∀ (l:List α) (i:Nat) (s:List β),foldE (T:=Empty) (fun _ s a=>.inl (s++g a)) i s l=.inl (s++l.flatMap g)
  | [],i,s=>by simp [foldE]
  | a :: l,i,s=>by
    simp only [foldE]
    rw [fold_flat g l (i+1) (s++g a),List.flatMap_cons,List.append_assoc]
structure M3 where
  name:ByteArray
  w:Int
  role:Int
def mrow (m:M3):List PV:=[.str m.name,.int .i64 m.w,.int .i64 m.role]
def mentU (u:Term):List M3:=if u.op=24 then [⟨u.name,u.w,0⟩] else if u.op=25 then [⟨u.name,u.w,1⟩] else []
def mentT (t:Term):List M3:=t.pre.flatMap mentU
theorem ments_pres (l:List Term):(Term.pres l).flatMap mentU=l.flatMap mentT:=by
  induction l with
  | nil=>rfl
  | cons a l ih=>simp only [Term.pres,List.flatMap_append,ih,List.flatMap_cons,mentT]
theorem mentT_eq (t:Term):mentT t=mentU t++t.args.flatMap mentT:=by
  rw [mentT,Term.pre_eq,List.flatMap_cons,ments_pres]
abbrev vf:AV:=.fn f_program_mentions_1 [.ptr 1 1 0 0,.ptr 2 1 0 0]
abbrev sM (s:List M3):Store:=[.pv (esOf 3 s) (s.map mrow) false,.av 1 [[.sl 0 s.length]] false,.av 1 [[vf]] false]
abbrev e_mv (t:Term) (i:Int):List (Nat×AV):=[(2,.ptr 2 1 0 0),(31,.p (.lst (t.args.map Term.row))),(32,.p (.int .i64 t.args.length)),(33,.p (.int .i64 i))]
theorem build_m {q:ByteArray} {w r:Int} {z0 z1 z2:AV}:buildV [z0,z1,z2] [(0,2,.p (.agg [.str q,.int .i64 w])),(2,1,.p (.int .i64 r))]=some (.p (.agg [.str q,.int .i64 w,.int .i64 r])):=rfl
theorem bs_m {q:ByteArray} {w r:Int} {z0 z1 z2:AV}:blistV σ 3 1 (fillP (List.replicate 1 [z0,z1,z2]).flatten [(0,3,.p (.agg [.str q,.int .i64 w,.int .i64 r]))])=some (.p (.lst [[.str q,.int .i64 w,.int .i64 r]]),σ):=rfl
theorem src_m {q:ByteArray} {w r:Int}:srcOf σ 3 (.p (.lst [[.str q,.int .i64 w,.int .i64 r]]))=some (.inl [[.str q,.int .i64 w,.int .i64 r]]):=src_p rfl
theorem ap_m (s:List M3) (m:M3) (hs:s.length≤1000000000) {r:Store}:appendV (.pv (esOf 3 s) (s.map mrow) false :: r) 3 32 (.sl 0 s.length) (some (.inl [[.str m.name,.int .i64 m.w,.int .i64 m.role]]))=some (.sl 0 (s.length+1),.pv (esOf 3 (s++[m])) ((s++[m]).map mrow) false :: r):=by
  rw [v_append (σ:=.pv (esOf 3 s) (s.map mrow) false :: r) (b:=0) (n:=s.length) (e:=esOf 3 s) (rows:=s.map mrow) rfl (by simp) (esOf_or _ _ _) (by simp only [List.length_cons,List.length_nil];omega)]
  simp only [esOf_snoc,List.map_append,List.map_cons,List.map_nil,mrow,List.set_cons_zero,List.length_cons,List.length_nil,Nat.zero_add]
set_option maxHeartbeats 8000000 in
theorem v_visit (t:Term):TOk t→t.count≤1000000→∀ s,s.length+(mentT t).length≤1000000000→callV P vf [.p (.agg t.row)] (sM s)=some (.p (.tup []),sM (s++mentT t)):=by
  induction t using Term.ind with
  | h t ih=>
  intro ht hc s hs
  have hlen:=Term.counts_len t.args
  have hct:=Term.count_eq t
  rw [mentT_eq,List.length_append] at hs
  have hL:∀ s0:List M3,s0.length+(t.args.flatMap mentT).length≤1000000000→loopAt P L0_program_mentions_1 (e_mv t 0) (sM s0) 41 none=some (.exit 1,⟨upd (tm (e_mv t t.args.length)) 34 (.p (.bool false)),sM (s0++t.args.flatMap mentT),41,none⟩):=by
    intro s0 h0
    exact loop_fold (P:=P) (nt:=41) (rd:=none) (lv:=[2,31,32,33]) (b:=B0_program_mentions_1) (x:=1) (as:=t.args) (fun i (s:List M3)=>e_mv t i) sM (fun i s a=>s++mentT a)
      (fun s=>⟨upd (tm (e_mv t t.args.length)) 34 (.p (.bool false)),sM s,41,none⟩) (fun i s=>s=s0++(t.args.take i).flatMap mentT)
      (fun i a s ha hi hs=>by
        have hf:=flat_take mentT t.args i a ha
        refine ⟨by rw [hs,take_flat mentT ha,List.append_assoc],?_⟩
        have hm:=List.mem_of_getElem? ha
        have hac:=Term.counts_mem hm
        have hr:=ih a hm (ht.args hm) (by omega) s (by rw [hs,List.length_append];omega)
        have hlt:((i:Int)<t.args.length)=True:=by simpa using hi
        simp only [B0_program_mentions_1]
        simp (disch:=omega) only [eqZ,↓gc_len,seval,-List.reduceReplicate,reduceCtorEq,allP,hlt,v_iadr (map_get (f:=Term.row) ha) a.row_len,hr,e_mv]) (fun s hs=>by
        simp only [B0_program_mentions_1]
        simp (disch:=omega) only [eqZ,↓gc_len,seval,-List.reduceReplicate,reduceCtorEq,allP,Int.lt_irrefl]) (fun i s=>rfl) s0 (by simp) _ (fold_flat mentT t.args 0 s0)
  rw [callV_c,q_program_mentions_1,mentT_eq]
  simp only [List.cons_append,List.nil_append]
  unfold mentU at hs ⊢
  rcases Classical.propComplete (t.op=24) with h1 | h1
  · have h1':=of_eq_true h1
    rw [if_pos h1'] at hs ⊢
    have hl:=hL (s++[⟨t.name,t.w,0⟩]) (by rw [List.length_append];simp only [List.length_cons,List.length_nil] at hs ⊢;omega)
    have ha:=fun r=>ap_m (r:=r) s ⟨t.name,t.w,0⟩ (by omega)
    rw [List.append_assoc] at hl
    simp only [e_mv,sM,vf,List.length_append,List.length_cons,List.length_nil,Nat.zero_add] at hl
    (rw [call_go (lbY rfl),F_program_mentions_1];simp (disch:=omega) only [eqZ,↓gc_len,seval,-List.reduceReplicate,reduceCtorEq,allP,h1,build_m,bs_m,src_m,ha,k0_program_mentions_1,hl,List.length_map])
    simp only [sM,vf,List.length_append,List.length_cons,Nat.add_comm]
  · have h1':=of_eq_false h1
    rw [if_neg h1'] at hs ⊢
    rcases Classical.propComplete (t.op=25) with h2 | h2
    · have h2':=of_eq_true h2
      rw [if_pos h2'] at hs ⊢
      have hl:=hL (s++[⟨t.name,t.w,1⟩]) (by rw [List.length_append];simp only [List.length_cons,List.length_nil] at hs ⊢;omega)
      have ha:=fun r=>ap_m (r:=r) s ⟨t.name,t.w,1⟩ (by omega)
      rw [List.append_assoc] at hl
      simp only [e_mv,sM,vf,List.length_append,List.length_cons,List.length_nil,Nat.zero_add] at hl
      (rw [call_go (lbY rfl),F_program_mentions_1];simp (disch:=omega) only [eqZ,↓gc_len,seval,-List.reduceReplicate,reduceCtorEq,allP,h1,h2,build_m,bs_m,src_m,ha,k0_program_mentions_1,hl,List.length_map])
      simp only [sM,vf,List.length_append,List.length_cons,Nat.add_comm]
    · have h2':=of_eq_false h2
      rw [if_neg h2'] at hs ⊢
      have hl:=hL s (by simp only [List.length_nil] at hs;omega)
      simp only [e_mv,sM,vf] at hl
      rw [List.nil_append]
      (rw [call_go (lbY rfl),F_program_mentions_1];simp (disch:=omega) only [eqZ,↓gc_len,seval,-List.reduceReplicate,reduceCtorEq,allP,h1,h2,k0_program_mentions_1,hl,List.length_map])
structure Atom where
  root:ByteArray
  pat:Term
def Atom.row (a:Atom):List PV:=.str a.root :: a.pat.row
theorem Atom.row_eq (a:Atom):a.row=[.str a.root,.int .i64 a.pat.op,.int .i64 a.pat.w,.int .u64 a.pat.v,.str a.pat.name,.lst (a.pat.args.map Term.row)]:=by rw [Atom.row,Term.row_eq]
theorem Atom.row_len (a:Atom):a.row.length=6:=by rw [a.row_eq];rfl
theorem a_load (a:Atom):loadV σ 6 true (.p (.ptr a.row 0))=some (.p (.agg a.row)):=v_loadrow a.row_len
theorem a_cells (a:Atom):cellsOf 6 true (.p (.agg a.row))=some (a.row.map .p):=by simp [cellsOf,a.row_len]
theorem a_root (a:Atom):a.row[0]? = some (.str a.root):=by rw [a.row_eq];rfl
theorem a_w (a:Atom):a.row[2]? = some (.int .i64 a.pat.w):=by rw [a.row_eq];rfl
theorem a_pat (a:Atom):loadV σ 5 true (.p (.ptr a.row 1))=some (.p (.agg a.pat.row)):=by
  rw [a.row_eq,a.pat.row_eq];rfl
def mentR (a:Atom):List M3:=if a.root=bs [] then [] else [⟨a.root,a.pat.w,0⟩]
def mentA (a:Atom):List M3:=mentR a++mentT a.pat
abbrev e_mns (l:List Atom) (i:Int):List (Nat×AV):=[(3,.ptr 1 1 0 0),(4,.ptr 2 1 0 0),(8,.p (.lst (l.map Atom.row))),(9,.p (.int .i64 l.length)),(10,.p (.int .i64 i))]
set_option maxHeartbeats 8000000 in
theorem l_mentions (l:List Atom) (hl:l.length≤1000000) (hm:(l.flatMap mentA).length≤1000000) (ht:∀ a∈l,TOk a.pat∧a.pat.count≤1000000):loopAt P L0_program_mentions (e_mns l 0) (sM []) 33 none=some (.exit 0,⟨upd (tm (e_mns l l.length)) 11 (.p (.bool false)),sM (l.flatMap mentA),33,none⟩):=by
  have h:=loop_fold (P:=P) (nt:=33) (rd:=none) (lv:=[3,4,8,9,10]) (b:=B0_program_mentions) (x:=0) (as:=l) (fun i (s:List M3)=>e_mns l i) sM (fun i s a=>s++mentA a)
      (fun s=>⟨upd (tm (e_mns l l.length)) 11 (.p (.bool false)),sM s,33,none⟩) (fun i s=>s=(l.take i).flatMap mentA)
      (fun i a s ha hi hs=>by
        have hf:=flat_take mentA l i a ha
        refine ⟨by rw [hs,take_flat mentA ha],?_⟩
        have hma:=List.mem_of_getElem? ha
        have hma2:(mentA a).length=(mentR a).length+(mentT a.pat).length:=by rw [mentA,List.length_append]
        rw [← hs] at hf
        have hlt:((i:Int)<l.length)=True:=by simpa using hi
        have hx:=fun σ=>v_iadr (k:=.i64) (es:=6) (σ:=σ) (map_get (f:=Atom.row) ha) a.row_len
        rcases Classical.propComplete (a.root=bs []) with h1 | h1
        · have h1':=of_eq_true h1
          have e:mentA a=mentT a.pat:=by rw [mentA,mentR,if_pos h1',List.nil_append]
          have hr:=v_visit a.pat (ht a hma).1 (ht a hma).2 s (by omega)
          rw [e]
          simp only [B0_program_mentions]
          simp (disch:=omega) only [eqZ,↓gc_len,seval,-List.reduceReplicate,reduceCtorEq,allP,hlt,hx,a_load,a_cells,a_root,a_w,a_pat,hr,e_mns,h1]
        · have h1':=of_eq_false h1
          have e:mentA a=[⟨a.root,a.pat.w,0⟩]++mentT a.pat:=by rw [mentA,mentR,if_neg h1']
          have e2:(mentR a).length=1:=by rw [mentR,if_neg h1'];rfl
          have hr:=v_visit a.pat (ht a hma).1 (ht a hma).2 (s++[⟨a.root,a.pat.w,0⟩]) (by rw [List.length_append];simp only [List.length_cons,List.length_nil];omega)
          have hap:=fun r=>ap_m (r:=r) s ⟨a.root,a.pat.w,0⟩ (by omega)
          rw [e,← List.append_assoc]
          simp only [sM,vf,List.length_append,List.length_cons,List.length_nil,Nat.zero_add] at hr
          simp only [B0_program_mentions]
          simp (disch:=omega) only [eqZ,↓gc_len,seval,-List.reduceReplicate,reduceCtorEq,allP,hlt,hx,a_load,a_cells,a_root,a_w,a_pat,build_m,bs_m,src_m,hap,hr,e_mns,h1]
          simp only [sM,vf,List.length_append,List.length_cons,List.length_nil,Nat.zero_add]) (fun s hs=>by
        simp only [B0_program_mentions]
        simp (disch:=omega) only [eqZ,↓gc_len,seval,-List.reduceReplicate,reduceCtorEq,allP,Int.lt_irrefl]) (fun i s=>rfl) [] (by simp) _ (fold_flat mentA l 0 [])
  rw [List.nil_append] at h
  exact h
theorem al_1:allocV 1 ([.sl σ.length 0],σ++[.pv 0 [] false])=some (.ptr (σ.length+1) 1 0 0,σ++[.pv 0 [] false]++[.av 1 [[.sl σ.length 0]] false]):=by simp [allocV,mkObj,allP]
theorem al_2 {o0 o1:Obj}:storeV [o0,o1,.pv 1 [[.nilf]] false] 1 (.ptr 2 1 0 0) (mkFn f_program_mentions_1 [.ptr 1 1 0 0,.ptr 2 1 0 0])=some [o0,o1,.av 1 [[vf]] false]:=rfl
theorem s_mentions (l:List Atom) (hl:l.length≤1000000) (hm:(l.flatMap mentA).length≤1000000) (ht:∀ a∈l,TOk a.pat∧a.pat.count≤1000000):R P f_program_mentions [.lst (l.map Atom.row)]=some (.lst ((l.flatMap mentA).map mrow)):=by
  have h:=l_mentions l hl hm ht
  simp only [sM,vf,e_mns,List.length_nil,List.map_nil] at h
  have e:esOf 3 ([]:List M3)=0:=rfl
  rw [e] at h
  (rw [r_program_mentions (lbY rfl),F_program_mentions];simp (disch:=omega) only [eqZ,↓gc_len,seval,-List.reduceReplicate,reduceCtorEq,allP,k0_program_mentions,h,List.length_map,al_1,al_2])
def asU (r:Int) (m:M3):Term:=⟨if m.role=r then 1 else 0,m.w,0,m.name,[]⟩
def addsM (r:Int) (l:List M3) (s:List V2):List V2:=(l.map (asU r)).foldl addU s
theorem s_Names1 (v:V2) (m:M3):R P f_program_Names_1 [.agg (vrow v),.ptr (mrow m) 0]=some (.bool (decide (v.name=m.name))):=by
  (rw [r_program_Names_1 (lbY rfl),F_program_Names_1];simp (disch:=omega) only [eqZ,↓gc_len,seval,-List.reduceReplicate,reduceCtorEq,allP,vrow,mrow])
def isM (m:M3) (v:V2):Bool:=decide (v.name=m.name)
abbrev e_ixm (l:List V2) (m:M3) (i:Int):List (Nat×AV):=[(0,.p (.lst (l.map vrow))),(1,.p (.fn f_program_Names_1 [.ptr (mrow m) 0])),(7,.p (.int .i64 l.length)),(8,.p (.int .i64 i))]
set_option maxHeartbeats 4000000 in
theorem s_ContainsM (l:List V2) (m:M3) (hl:l.length≤1000000):R P f_slices_ContainsFunc_api_Var_api_Var [.lst (l.map vrow),.fn f_program_Names_1 [.ptr (mrow m) 0]]=some (.bool (l.any (isM m))):=by
  have h:=loop_to (P:=P) (nt:=19) (lv:=[0,1,7,8]) (b:=B0_slices_IndexFunc_api_Var_api_Var) (rd:=none) (as:=l) (fun i (_:Unit)=>e_ixm l m i) (fun _=>[]) (fun i _ v=>if isM m v=true then .inr i else .inl ()) (fun (n:Nat)=>ret1 4 (.int .i64 n) []) (fun _ _=>True)
    (fun i v s hv hi hs=>by
      refine ⟨fun _ _=>trivial,?_⟩
      have hlt:((i:Int)<l.length)=True:=by simpa using hi
      have hr:=s_Names1 v m
      have hx:=fun σ=>v_iadr (k:=.i64) (es:=2) (σ:=σ) (map_get (f:=vrow) hv) (by simp [vrow])
      unfold isM
      rcases Classical.propComplete (v.name=m.name) with h1 | h1
      · rw [decide_eq_true (of_eq_true h1)] at hr
        simp only [vrow,mrow] at hr
        simp only [B0_slices_IndexFunc_api_Var_api_Var,h1]
        simp (disch:=omega) only [eqZ,↓gc_len,seval,-List.reduceReplicate,reduceCtorEq,allP,hlt,hx,vrow,mrow,q_program_Names_1,hr,e_ixm,ret1]
      · rw [decide_eq_false (of_eq_false h1)] at hr
        simp only [vrow,mrow] at hr
        simp only [B0_slices_IndexFunc_api_Var_api_Var,h1]
        simp (disch:=omega) only [eqZ,↓gc_len,seval,-List.reduceReplicate,reduceCtorEq,allP,hlt,hx,vrow,mrow,q_program_Names_1,hr,e_ixm,ret1]) (fun i s=>rfl) () trivial
  rcases fold_find (isM m) l 0 with ⟨n,h1,h2⟩ | ⟨h1,h2⟩
  · rw [h1] at h
    obtain ⟨⟨e',τ',σ',nt',rd'⟩,g1,g2,g3,g4⟩:=h
    simp only at g2 g3 g4
    subst g2;subst g4
    have h':loopAt P L0_slices_IndexFunc_api_Var_api_Var (e_ixm l m 0) [] 19 none=some (.ret,⟨τ',[],nt',rd'⟩):=g1
    simp only [e_ixm] at h'
    have hi:R P f_slices_IndexFunc_api_Var_api_Var [.lst (l.map vrow),.fn f_program_Names_1 [.ptr (mrow m) 0]]=some (.int .i64 n):=by
      (rw [r_slices_IndexFunc_api_Var_api_Var (lbY rfl),F_slices_IndexFunc_api_Var_api_Var];simp (disch:=omega) only [eqZ,↓gc_len,seval,-List.reduceReplicate,reduceCtorEq,allP,List.length_map,k0_slices_IndexFunc_api_Var_api_Var,h',g3])
    have hn:((n:Int) ≥ 0)=True:=by simp
    rw [h2]
    (rw [r_slices_ContainsFunc_api_Var_api_Var (lbY rfl),F_slices_ContainsFunc_api_Var_api_Var];simp (disch:=omega) only [eqZ,↓gc_len,seval,-List.reduceReplicate,reduceCtorEq,allP,q_slices_IndexFunc_api_Var_api_Var,hi,hn])
  · rw [h1] at h
    obtain ⟨_,h⟩:=h
    have h':loopAt P L0_slices_IndexFunc_api_Var_api_Var (e_ixm l m 0) [] 19 none=_:=h
    simp only [e_ixm] at h'
    have hi:R P f_slices_IndexFunc_api_Var_api_Var [.lst (l.map vrow),.fn f_program_Names_1 [.ptr (mrow m) 0]]=some (.int .i64 (-1)):=by
      (rw [r_slices_IndexFunc_api_Var_api_Var (lbY rfl),F_slices_IndexFunc_api_Var_api_Var];simp (disch:=omega) only [eqZ,↓gc_len,seval,-List.reduceReplicate,reduceCtorEq,allP,List.length_map,k0_slices_IndexFunc_api_Var_api_Var,h',B0_slices_IndexFunc_api_Var_api_Var,Int.lt_irrefl])
    rw [h2]
    (rw [r_slices_ContainsFunc_api_Var_api_Var (lbY rfl),F_slices_ContainsFunc_api_Var_api_Var];simp (disch:=omega) only [eqZ,↓gc_len,seval,-List.reduceReplicate,reduceCtorEq,allP,q_slices_IndexFunc_api_Var_api_Var,hi])
theorem addU_asU (r:Int) (s:List V2) (m:M3):addU s (asU r m)=if m.role=r∧s.any (isM m)=false then s++[⟨m.name,m.w⟩] else s:=by
  unfold addU asU
  by_cases h:m.role=r
  · simp only [h,if_true,true_and]
    show (if (1:Int)=1∧s.any (isM m)=false then s++[⟨m.name,m.w⟩] else s)=_
    simp
  · simp only [h,if_false,false_and]
    show (if (0:Int)=1∧s.any (isM m)=false then s++[⟨m.name,m.w⟩] else s)=_
    simp
theorem m_load (m:M3):loadV σ 3 true (.p (.ptr (mrow m) 0))=some (.p (.agg (mrow m))):=rfl
theorem m_cells (m:M3):cellsOf 3 true (.p (.agg (mrow m)))=some ((mrow m).map .p):=rfl
theorem m_0 (m:M3):(mrow m)[0]? = some (.str m.name):=rfl
theorem m_2 (m:M3):(mrow m)[2]? = some (.int .i64 m.role):=rfl
theorem m_v (m:M3):loadV σ 2 true (.p (.ptr (mrow m) 0))=some (.p (.agg [.str m.name,.int .i64 m.w])):=rfl
theorem iad0:iadrAV 2 1 (.ptr 2 1 0 0) (.p (.int .i64 0))=some (.ptr 2 1 0 0):=rfl
theorem iad1:iadrAV 2 1 (.ptr 2 1 0 0) (.p (.int .i64 1))=some (.ptr 2 1 0 1):=rfl
theorem pt_0 {b n:Nat} {x:AV}:ofC false (part 0 1 [.sl b n,x])=some (.sl b n):=rfl
theorem pt_1 {b n:Nat} {x:AV}:ofC false (part 1 1 [x,.sl b n])=some (.sl b n):=rfl
theorem pp_0 {b n c m:Nat} {x:AV}:putPart 0 [.sl c m] [.sl b n,x]=some [.sl c m,x]:=rfl
theorem pp_1 {b n c m:Nat} {x:AV}:putPart 1 [.sl c m] [x,.sl b n]=some [x,.sl c m]:=rfl
theorem mo_2 {b n c m:Nat}:mkObj 2 [.sl b n,.sl c m]=.av 2 [[.sl b n,.sl c m]] false:=rfl
abbrev sN (a b:List V2):Store:=[.pv (esOf 2 a) (a.map vrow) false,.pv (esOf 2 b) (b.map vrow) false,.av 2 [[.sl 0 a.length,.sl 1 b.length]] false]
abbrev e_nm (l:List M3) (i:Int):List (Nat×AV):=[(4,.ptr 2 1 0 0),(11,.p (.lst (l.map mrow))),(12,.p (.int .i64 l.length)),(13,.p (.int .i64 i))]
theorem ap_v0 (s:List V2) (v:V2) (hs:s.length≤1000000000) {r:Store}:appendV (.pv (esOf 2 s) (s.map vrow) false :: r) 2 24 (.sl 0 s.length) (some (.inl [[.str v.name,.int .i64 v.w]]))=some (.sl 0 (s.length+1),.pv (esOf 2 (s++[v])) ((s++[v]).map vrow) false :: r):=by
  rw [v_append (σ:=.pv (esOf 2 s) (s.map vrow) false :: r) (b:=0) (n:=s.length) (e:=esOf 2 s) (rows:=s.map vrow) rfl (by simp) (esOf_or _ _ _) (by simp only [List.length_cons,List.length_nil];omega)]
  simp only [esOf_snoc,List.map_append,List.map_cons,List.map_nil,vrow,List.set_cons_zero,List.length_cons,List.length_nil,Nat.zero_add]
theorem ap_v1 (s:List V2) (v:V2) (hs:s.length≤1000000000) {o:Obj} {r:Store}:appendV (o :: .pv (esOf 2 s) (s.map vrow) false :: r) 2 24 (.sl 1 s.length) (some (.inl [[.str v.name,.int .i64 v.w]]))=some (.sl 1 (s.length+1),o :: .pv (esOf 2 (s++[v])) ((s++[v]).map vrow) false :: r):=by
  rw [v_append (σ:=o :: .pv (esOf 2 s) (s.map vrow) false :: r) (b:=1) (n:=s.length) (e:=esOf 2 s) (rows:=s.map vrow) rfl (by simp) (esOf_or _ _ _) (by simp only [List.length_cons,List.length_nil];omega)]
  simp only [esOf_snoc,List.map_append,List.map_cons,List.map_nil,vrow,List.set_cons_succ,List.set_cons_zero,List.length_cons,List.length_nil,Nat.zero_add]
set_option maxHeartbeats 16000000 in
theorem l0_Names (l:List M3) (hl:l.length≤1000000) (hr:∀ m∈l,m.role=0∨m.role=1):loopAt P L0_program_Names (e_nm l 0) (sN [] []) 48 none=some (.exit 0,⟨upd (tm (e_nm l l.length)) 14 (.p (.bool false)),sN (addsM 0 l []) (addsM 1 l []),48,none⟩):=by
  have h:=loop_fold (P:=P) (nt:=48) (rd:=none) (lv:=[4,11,12,13]) (b:=B0_program_Names) (x:=0) (as:=l) (fun i (s:List V2×List V2)=>e_nm l i) (fun s=>sN s.1 s.2) (fun i s m=>(addU s.1 (asU 0 m),addU s.2 (asU 1 m)))
      (fun s=>⟨upd (tm (e_nm l l.length)) 14 (.p (.bool false)),sN s.1 s.2,48,none⟩) (fun i s=>s.1.length≤i∧s.2.length≤i)
      (fun i m s ha hi hs=>by
        have h1:=addU_len (s:=s.1) (u:=asU 0 m)
        have h2:=addU_len (s:=s.2) (u:=asU 1 m)
        refine ⟨⟨Nat.le_trans h1 (by omega),Nat.le_trans h2 (by omega)⟩,?_⟩
        obtain ⟨s1,s2⟩:=s
        simp only at hs h1 h2 ⊢
        have hm:=List.mem_of_getElem? ha
        have hlt:((i:Int)<l.length)=True:=by simpa using hi
        have hx:=fun σ=>v_iadr (k:=.i64) (es:=3) (σ:=σ) (map_get (f:=mrow) ha) (by simp [mrow])
        have c1:=s_ContainsM s1 m (by omega)
        have c2:=s_ContainsM s2 m (by omega)
        have a1:=fun r=>ap_v0 (r:=r) s1 ⟨m.name,m.w⟩ (by omega)
        have a2:=fun o r=>ap_v1 (o:=o) (r:=r) s2 ⟨m.name,m.w⟩ (by omega)
        rw [addU_asU,addU_asU]
        rcases hr m hm with h0 | h0
        · cases hc:s1.any (isM m) with
          | true=>
            rw [hc] at c1
            simp only [B0_program_Names]
            simp (disch:=omega) only [eqZ,↓gc_len,seval,-List.reduceReplicate,reduceCtorEq,allP,hlt,hx,m_load,m_cells,m_0,m_2,m_v,iad0,iad1,pt_0,pt_1,pp_0,pp_1,mo_2,regD_go,regD_some,regOk,apartOk,pureRead,blkOf,noNils,Bool.false_or,Bool.or_self,Bool.or_true,Bool.true_or,Bool.and_self,h0,q_slices_ContainsFunc_api_Var_api_Var,c1,List.length_map,mkFn,e_nm]
          | false=>
            rw [hc] at c1
            simp only [B0_program_Names]
            simp (disch:=omega) only [eqZ,↓gc_len,seval,-List.reduceReplicate,reduceCtorEq,allP,hlt,hx,m_load,m_cells,m_0,m_2,m_v,iad0,iad1,pt_0,pt_1,pp_0,pp_1,mo_2,regD_go,regD_some,regOk,apartOk,pureRead,blkOf,noNils,Bool.false_or,Bool.or_self,Bool.or_true,Bool.true_or,Bool.and_self,h0,q_slices_ContainsFunc_api_Var_api_Var,c1,List.length_map,mkFn,e_nm,a1]
            simp only [sN,List.length_append,List.length_cons,List.length_nil,Nat.zero_add]
        · cases hc:s2.any (isM m) with
          | true=>
            rw [hc] at c2
            simp only [B0_program_Names]
            simp (disch:=omega) only [eqZ,↓gc_len,seval,-List.reduceReplicate,reduceCtorEq,allP,hlt,hx,m_load,m_cells,m_0,m_2,m_v,iad0,iad1,pt_0,pt_1,pp_0,pp_1,mo_2,regD_go,regD_some,regOk,apartOk,pureRead,blkOf,noNils,Bool.false_or,Bool.or_self,Bool.or_true,Bool.true_or,Bool.and_self,h0,q_slices_ContainsFunc_api_Var_api_Var,c2,List.length_map,mkFn,e_nm]
          | false=>
            rw [hc] at c2
            simp only [B0_program_Names]
            simp (disch:=omega) only [eqZ,↓gc_len,seval,-List.reduceReplicate,reduceCtorEq,allP,hlt,hx,m_load,m_cells,m_0,m_2,m_v,iad0,iad1,pt_0,pt_1,pp_0,pp_1,mo_2,regD_go,regD_some,regOk,apartOk,pureRead,blkOf,noNils,Bool.false_or,Bool.or_self,Bool.or_true,Bool.true_or,Bool.and_self,h0,q_slices_ContainsFunc_api_Var_api_Var,c2,List.length_map,mkFn,e_nm,a2]
            simp only [sN,List.length_append,List.length_cons,List.length_nil,Nat.zero_add]) (fun s hs=>by
        simp only [B0_program_Names]
        simp (disch:=omega) only [eqZ,↓gc_len,seval,-List.reduceReplicate,reduceCtorEq,allP,Int.lt_irrefl]) (fun i s=>rfl) ([],[]) (by simp) (addsM 0 l [],addsM 1 l []) (by
          have key:∀ (l:List M3) (i:Nat) (a b:List V2),foldE (T:=Empty) (fun i s m=>.inl ((addU s.1 (asU 0 m),addU s.2 (asU 1 m)):List V2×List V2)) i (a,b) l=.inl (addsM 0 l a,addsM 1 l b):=by
            intro l
            induction l with
            | nil=>intro i a b;rfl
            | cons m l ih=>intro i a b;simp only [foldE];rw [ih];rfl
          exact key l 0 [] [])
  exact h
theorem isort_len {l:List V2}:(isort ltN l).length=l.length:=by
  have ins:∀ (x:V2) (l:List V2),(insR ltN x l).length=l.length+1:=by
    intro x l
    induction l with
    | nil=>rfl
    | cons y l ih=>
      simp only [insR]
      split<;>simp [ih]
  induction l with
  | nil=>rfl
  | cons x l ih=>rw [isort,ins,ih];rfl
theorem esOf_isort {l:List V2}:esOf 2 (isort ltN l)=esOf 2 l:=by
  have h:=isort_len (l:=l)
  unfold esOf
  cases l with
  | nil=>rfl
  | cons a l=>
    cases hi:isort ltN (a :: l) with
    | nil=>rw [hi] at h;simp at h
    | cons b m=>rfl
theorem sort0 (l:List V2) (hd:DistN l) (hl:l.length≤1000000000) {r:Store}:callF P f_slices_SortFunc_api_Var_api_Var [.sl 0 l.length,.p (.fn f_program_Names_2 [])] (.pv (esOf 2 l) (l.map vrow) false :: r)=some (.p (.tup []),.pv (esOf 2 (isort ltN l)) ((isort ltN l).map vrow) false :: r):=by
  rw [q_slices_SortFunc_api_Var_api_Var]
  simp only [primSort,if_true,List.getElem?_cons_zero]
  have hrow:l.map vrow=[]∨esOf 2 l=2:=by cases l with | nil=>exact .inl rfl | cons a l=>exact .inr rfl
  rw [if_pos ⟨by simp,by omega,hrow,all_okV l,aparts_of hd⟩]
  simp only [List.set_cons_zero,isort_map ltV_row,esOf_isort]
theorem sort1 (l:List V2) (hd:DistN l) (hl:l.length≤1000000000) {o:Obj} {r:Store}:callF P f_slices_SortFunc_api_Var_api_Var [.sl 1 l.length,.p (.fn f_program_Names_2 [])] (o :: .pv (esOf 2 l) (l.map vrow) false :: r)=some (.p (.tup []),o :: .pv (esOf 2 (isort ltN l)) ((isort ltN l).map vrow) false :: r):=by
  rw [q_slices_SortFunc_api_Var_api_Var]
  simp only [primSort,if_true,List.getElem?_cons_succ,List.getElem?_cons_zero]
  have hrow:l.map vrow=[]∨esOf 2 l=2:=by cases l with | nil=>exact .inl rfl | cons a l=>exact .inr rfl
  rw [if_pos ⟨by simp,by omega,hrow,all_okV l,aparts_of hd⟩]
  simp only [List.set_cons_succ,List.set_cons_zero,isort_map ltV_row,esOf_isort]
abbrev e_no (a b:List V2) (i:Int):List (Nat×AV):=[(4,.ptr 2 1 0 0),(37,.agg [.sl 0 a.length,.sl 1 b.length]),(38,.p (.int .i64 i))]
def nmA (a:List V2) (k:Nat):List V2:=if k=0 then a else isort ltN a
def nmB (b:List V2) (k:Nat):List V2:=if k≤1 then b else isort ltN b
theorem ix_0 {b n c m:Nat}:idxAV 2 1 false (.agg [.sl b n,.sl c m]) (.p (.int .i64 0))=some (.sl b n):=rfl
theorem ix_1 {b n c m:Nat}:idxAV 2 1 false (.agg [.sl b n,.sl c m]) (.p (.int .i64 1))=some (.sl c m):=rfl
set_option maxHeartbeats 16000000 in
theorem l1_Names (a b:List V2) (ha:DistN a) (hb:DistN b) (hal:a.length≤1000000) (hbl:b.length≤1000000):loopAt P L1_program_Names (e_no a b 0) (sN a b) 48 none=some (.exit 2,⟨upd (tm (e_no a b 2)) 39 (.p (.bool false)),sN (isort ltN a) (isort ltN b),48,none⟩):=by
  have h:=loop_fold (P:=P) (nt:=48) (rd:=none) (lv:=[4,37,38]) (b:=B1_program_Names) (x:=2) (as:=[0,1]) (fun i (_:Nat)=>e_no a b i) (fun k=>[.pv (esOf 2 (nmA a k)) ((nmA a k).map vrow) false,.pv (esOf 2 (nmB b k)) ((nmB b k).map vrow) false,.av 2 [[.sl 0 a.length,.sl 1 b.length]] false]) (fun i k (_:Nat)=>k+1)
      (fun k=>⟨upd (tm (e_no a b 2)) 39 (.p (.bool false)),[.pv (esOf 2 (nmA a k)) ((nmA a k).map vrow) false,.pv (esOf 2 (nmB b k)) ((nmB b k).map vrow) false,.av 2 [[.sl 0 a.length,.sl 1 b.length]] false],48,none⟩) (fun i k=>k=i)
      (fun i m k hm hi hk=>by
        refine ⟨by rw [hk],?_⟩
        subst hk
        have h2:k=0∨k=1:=by simp only [List.length_cons,List.length_nil] at hi;omega
        have s0:=fun r=>sort0 (r:=r) a ha (by omega)
        have s1:=fun o r=>sort1 (o:=o) (r:=r) b hb (by omega)
        rcases h2 with rfl | rfl
        · simp only [B1_program_Names,nmA,nmB,if_true,Nat.zero_le,Nat.le_refl,Nat.zero_add,Nat.one_ne_zero,if_false]
          simp (disch:=omega) only [eqZ,↓gc_len,seval,-List.reduceReplicate,reduceCtorEq,allP,e_no,s0,ix_0]
          rfl
        · have e2:¬ (1+1≤1):=by omega
          simp only [B1_program_Names,nmA,nmB,if_true,Nat.le_refl,Nat.one_ne_zero,if_false,e2,Nat.add_eq_zero_iff,and_self]
          simp (disch:=omega) only [eqZ,↓gc_len,seval,-List.reduceReplicate,reduceCtorEq,allP,e_no,s1,ix_1]
          rfl) (fun s hs=>by
        simp only [B1_program_Names]
        simp (disch:=omega) only [eqZ,↓gc_len,seval,-List.reduceReplicate,reduceCtorEq,allP,Int.lt_irrefl]) (fun i s=>rfl) 0 rfl 2 rfl
  simp only [nmA,nmB,if_true,Nat.zero_le,if_neg (show ¬ (2:Nat)=0 by omega),if_neg (show ¬ (2:Nat)≤1 by omega)] at h
  simp only [sN,isort_len]
  exact h
theorem al_n:allocV 2 (eagers [.nils,.nils] [])=some (.ptr 2 1 0 0,[.pv 0 [] false,.pv 0 [] false,.av 2 [[.sl 0 0,.sl 1 0]] false]):=rfl
theorem ld_n {b n c m:Nat}:ofC true (part 0 2 [.sl b n,.sl c m])=some (.agg [.sl b n,.sl c m]):=rfl
def namesM (r:Int) (l:List M3):List V2:=isort ltN (addsM r l [])
theorem addsM_dist (r:Int) (l:List M3):DistN (addsM r l []):=addUs_dist (by simp [DistN])
theorem addsM_len (r:Int) (l:List M3):(addsM r l []).length≤l.length:=by
  have:=addUs_len (l:=l.map (asU r)) (s:=[])
  simpa [addsM] using this
theorem mentU_role {u:Term} {m:M3} (h:m∈mentU u):m.role=0∨m.role=1:=by
  unfold mentU at h
  split at h
  · simp only [List.mem_singleton] at h;subst h;exact .inl rfl
  · split at h
    · simp only [List.mem_singleton] at h;subst h;exact .inr rfl
    · simp at h
theorem mentA_role {a:Atom} {m:M3} (h:m∈mentA a):m.role=0∨m.role=1:=by
  unfold mentA mentR at h
  rcases List.mem_append.1 h with h | h
  · split at h
    · simp at h
    · simp only [List.mem_singleton] at h;subst h;exact .inl rfl
  · obtain ⟨u,_,h⟩:=List.mem_flatMap.1 h
    exact mentU_role h
theorem ments_role {l:List Atom}:∀ m∈l.flatMap mentA,m.role=0∨m.role=1:=by
  intro m h
  obtain ⟨a,_,h⟩:=List.mem_flatMap.1 h
  exact mentA_role h
set_option maxHeartbeats 8000000 in
theorem s_program_Names (l:List Atom) (hl:l.length≤1000000) (hm:(l.flatMap mentA).length≤1000000) (ht:∀ a∈l,TOk a.pat∧a.pat.count≤1000000):R P f_program_Names [.lst (l.map Atom.row)]=some (.tup [.lst ((namesM 0 (l.flatMap mentA)).map vrow),.lst ((namesM 1 (l.flatMap mentA)).map vrow)]):=by
  have h0:=s_mentions l hl hm ht
  have hr:=ments_role (l:=l)
  generalize l.flatMap mentA=T at *
  have h1:=l0_Names T hm hr
  have g0:=addsM_len 0 T
  have g1:=addsM_len 1 T
  have h2:=l1_Names _ _ (addsM_dist 0 T) (addsM_dist 1 T) (by omega) (by omega)
  simp only [e_nm,sN,List.map_nil,List.length_nil] at h1
  have e0:esOf 2 ([]:List V2)=0:=rfl
  rw [e0] at h1
  simp only [e_no,sN] at h2
  (rw [r_program_Names (lbY rfl),F_program_Names];simp (disch:=omega) only [eqZ,↓gc_len,seval,-List.reduceReplicate,reduceCtorEq,allP,q_program_mentions,h0,k0_program_Names,h1,List.length_map,k1_program_Names,h2,al_n,ld_n,iad0,iad1,pt_0,pt_1])
  rfl
def urow (m:M3):List PV:=[.str m.name,.int .i64 (24+m.role),.int .i64 m.w]
abbrev e_sn (x:AV) (T:List M3) (r i k:Int):List (Nat×AV):=[(0,.p (.lst (T.map urow))),(1,.p (.int .i64 (24+r))),(5,x),(6,.p (.int .i64 i)),(7,.p (.int .i64 k))]
def outSn (x:AV) (T:List M3) (r i:Int) (σ:Store) (k:Nat) (q:Ex×St):Prop:=∃ τ',q=(.exit 2,⟨τ',σ,83,none⟩)∧τ'.get 0=.p (.lst (T.map urow))∧τ'.get 1=.p (.int .i64 (24+r))∧τ'.get 5=x∧τ'.get 6=.p (.int .i64 i)∧τ'.get 7=.p (.int .i64 k)
set_option maxHeartbeats 4000000 in
theorem l1_rnames (x:AV) (σ:Store) (l:List V2) (h:OutOk x σ l) (T:List M3) (r:Int) (i:Nat) (u:M3) (hu:T[i]? = some u) (hll:l.length≤1000000) :
    ∃ τ',loopAt P L1_r25_names (e_sn x T r i 0) σ 83 none=some (.exit 2,⟨τ',σ,83,none⟩)∧τ'.get 0=.p (.lst (T.map urow))∧τ'.get 1=.p (.int .i64 (24+r))∧τ'.get 5=x∧τ'.get 6=.p (.int .i64 i)∧τ'.get 7=.p (.int .i64 (posN u.name l)):=by
  have hlen:=out_len h
  have hui:=fun σ=>v_iadr (k:=.i64) (es:=3) (σ:=σ) (map_get (f:=urow) hu) (by simp [urow])
  have hl:=loop_to (P:=P) (nt:=83) (lv:=[0,1,5,6,7]) (b:=B1_r25_names) (rd:=none) (as:=l) (fun k (_:Unit)=>e_sn x T r i k) (fun _=>σ) (fun k _ v=>if slt v.name u.name=true then .inl () else .inr k) (fun (k:Nat)=>outSn x T r i σ k) (fun _ _=>True)
    (fun k v s hv hk hs=>by
      refine ⟨fun _ _=>trivial,?_⟩
      have hlt:((k:Int)<l.length)=True:=by simpa using hk
      obtain ⟨A,hA,A',hA',hL⟩:=out_at h hv
      rcases Classical.propComplete (slt v.name u.name=true) with h1 | h1
      · have h2:slt v.name u.name=true:=of_eq_true h1
        simp only [B1_r25_names,h2,if_true]
        simp (disch:=omega) only [eqZ,↓gc_len,seval,-List.reduceReplicate,reduceCtorEq,allP,hlen,hlt,hA,hA',hL,hui,urow,h2,e_sn]
      · have h2:slt v.name u.name=false:=by simpa using of_eq_false h1
        simp only [B1_r25_names,h2]
        simp (disch:=omega) only [eqZ,↓gc_len,seval,-List.reduceReplicate,reduceCtorEq,allP,hlen,hlt,hA,hA',hL,hui,urow,h2,e_sn,outSn]
        exact ⟨_,rfl,rfl,rfl,rfl,rfl,rfl⟩) (fun i s=>rfl) () trivial
  rw [fold_sr] at hl
  by_cases hp:posN u.name l<l.length
  · rw [if_pos hp] at hl
    obtain ⟨q,h1,τ',rfl,h2,h3,h4,h5,h6⟩:=hl
    refine ⟨τ',h1,h2,h3,h4,h5,?_⟩
    rw [h6,Nat.zero_add]
  · rw [if_neg hp] at hl
    obtain ⟨_,h1⟩:=hl
    have he:=posN_end hp
    have h':loopAt P L1_r25_names (e_sn x T r i 0) σ 83 none=_:=h1
    rw [h']
    simp only [B1_r25_names]
    simp (disch:=omega) only [eqZ,↓gc_len,seval,-List.reduceReplicate,reduceCtorEq,allP,hlen,e_sn,Int.lt_irrefl]
    exact ⟨_,rfl,rfl,rfl,rfl,rfl,by rw [he];rfl⟩
abbrev e_vn (T:List M3) (r:Int) (x:AV) (i:Int):List (Nat×AV):=[(0,.p (.lst (T.map urow))),(1,.p (.int .i64 (24+r))),(5,x),(6,.p (.int .i64 i))]
def insM (r:Int) (T:List M3):List V2:=(T.map (asU r)).foldl insU []
def IVn (T:List M3) (r:Int) (i:Nat) (e:List (Nat×AV)) (σ:Store):Prop:=∃ x,e=e_vn T r x i∧OutOk x σ (insM r (T.take i))
theorem gc_hi4 {n m:Nat} {T:List M3} {r:Int} (h:n<σ.length) {y:AV}:gc n [.p (.lst (T.map urow)),.p (.int .i64 (24+r)),.sl n m,y] σ=σ:=by
  unfold gc
  rw [if_neg (by omega),if_neg]
  simp [gcOk,below]
theorem insU_asU (r:Int) (s:List V2) (m:M3):insU s (asU r m)=if m.role=r then if hitN m.name s=true then s else s.take (posN m.name s)++[⟨m.name,m.w⟩]++s.drop (posN m.name s) else s:=by
  unfold insU asU
  by_cases h:m.role=r
  · simp only [h,if_true]
    show (if (1:Int)=1 then if hitN m.name s=true then s else s.take (posN m.name s)++[⟨m.name,m.w⟩]++s.drop (posN m.name s) else s)=_
    simp
  · simp only [h,if_false]
    show (if (0:Int)=1 then if hitN m.name s=true then s else s.take (posN m.name s)++[⟨m.name,m.w⟩]++s.drop (posN m.name s) else s)=_
    simp
set_option maxHeartbeats 16000000 in
theorem l0_rnames (T:List M3) (r:Int) (hT:T.length≤1000000):∃ e σ,IVn T r T.length e σ∧loopAt P L0_r25_names (e_vn T r .nils 0) [] 83 none=back P [0,1,5,6] B0_r25_names σ.length (exec P B0_r25_names ⟨tm e,σ,83,none⟩):=by
  refine loop_rel (P:=P) (nt:=83) (rd:=none) (lv:=[0,1,5,6]) (b:=B0_r25_names) (as:=T) (IVn T r) (fun i u e σ hu hi hI=>?_) (fun i e σ hI=>?_) _ _ ⟨.nils,rfl,.inl ⟨rfl,rfl⟩⟩
  · obtain ⟨x,rfl,hx⟩:=hI
    have hnext:insM r (T.take (i+1))=insU (insM r (T.take i)) (asU r u):=by
      rw [List.take_add_one,hu]
      simp [insM,List.foldl_append]
    have hll:=insUs_len (l:=(T.take i).map (asU r)) (s:=[])
    rw [List.length_map,List.length_take,List.length_nil] at hll
    have hll':(insM r (T.take i)).length≤0+min i T.length:=hll
    unfold IVn
    rw [hnext]
    generalize insM r (T.take i)=l at *
    have hl6:l.length≤1000000:=by omega
    have hlt:((i:Int)<T.length)=True:=by simpa using hi
    have hui:=fun σ=>v_iadr (k:=.i64) (es:=3) (σ:=σ) (map_get (f:=urow) hu) (by simp [urow])
    rw [insU_asU]
    rcases Classical.propComplete (u.role=r) with h1 | h1
    rotate_left
    · have h1':(24+u.role=24+r)=False:=by have:=of_eq_false h1;simp;omega
      refine ⟨e_vn T r x (i+1:Nat),σ,?_,x,rfl,?_⟩
      · simp only [B0_r25_names]
        simp (disch:=omega) only [eqZ,↓gc_len,seval,-List.reduceReplicate,reduceCtorEq,allP,hlt,hui,urow,List.length_map,h1',e_vn]
      · rw [if_neg (of_eq_false h1)]
        exact hx
    have ho:u.role=r:=of_eq_true h1
    have h1':(24+u.role=24+r)=True:=by rw [ho];simp
    rw [if_pos ho]
    obtain ⟨τ',hL,g0,g1,g5,g6,g7⟩:=l1_rnames x σ l hx T r i u hu hl6
    simp only [e_sn] at hL
    have hlen:=out_len hx
    have hple:=posN_le u.name l
    by_cases hit:hitN u.name l=true
    · refine ⟨e_vn T r x (i+1:Nat),σ,?_,x,rfl,?_⟩
      · unfold hitN at hit
        cases hg:l[posN u.name l]? with
        | none=>rw [hg] at hit;cases hit
        | some a=>
          rw [hg] at hit
          have hname:a.name=u.name:=of_decide_eq_true hit
          obtain ⟨A,hA,A',hA',hl'⟩:=out_at hx hg
          have hpl:(((posN u.name l:Nat):Int)<l.length)=True:=by
            have:=(List.getElem?_eq_some_iff.1 hg).1
            simpa using this
          simp only [B0_r25_names]
          simp (disch:=omega) only [eqZ,↓gc_len,seval,-List.reduceReplicate,reduceCtorEq,allP,hlt,hui,urow,List.length_map,h1',k1_r25_names,hL,g0,g1,g5,g6,g7,hlen,hpl,hA,hA',hl',hname,e_vn]
      · rw [if_pos hit]
        exact hx
    · rw [if_neg hit]
      generalize hk:posN u.name l=k at *
      have hx1:OutOk x (σ++[.pv 0 [] false]) l:=out_app hx
      obtain ⟨σ2,f2,n2,o2,c2⟩:=out_frz hx1
      have hne:∀ b n,x=.sl b n→σ.length≠b:=fun b n e=>by have:=out_lt hx e;omega
      have q2:σ2[σ.length]? = some (.pv 0 [] false):=by rw [c2 _ hne];simp
      obtain ⟨σ3,f3,n3,q3,c3⟩:=app_v (new:=(l.take k).map vrow) (n:=0) q2 rfl (.inr ⟨rfl,rfl⟩) (by simp;omega)
      have n3':σ3.length=σ.length+1:=by rw [n3,n2];simp
      have o3:OutOk x σ3 l:=by
        rcases o2 with h | ⟨b,fr,rfl,h⟩
        · exact .inl h
        · exact .inr ⟨b,fr,rfl,by rw [c3 b (fun e=>hne b _ rfl e.symm)];exact h⟩
      have q3':(σ3++[.pv 2 [vrow ⟨u.name,u.w⟩] false])[σ.length]? = some (.pv 2 ((l.take k).map vrow) false):=by
        rw [List.getElem?_append_left (by omega),q3]
        simp
      obtain ⟨σ4,f4,n4,q4,c4⟩:=app_v (new:=[vrow ⟨u.name,u.w⟩]) q3' (n:=k) (by simp;omega) (.inl rfl) (by simp;omega)
      have o4:OutOk x σ4 l:=by
        rcases out_app (o:=.pv 2 [vrow ⟨u.name,u.w⟩] false) o3 with h | ⟨b,fr,rfl,h⟩
        · exact .inl h
        · exact .inr ⟨b,fr,rfl,by rw [c4 b (fun e=>hne b _ rfl e.symm)];exact h⟩
      obtain ⟨σ5,f5,n5,o5,c5⟩:=out_frz o4
      have q5:σ5[σ.length]? = some (.pv 2 ((l.take k).map vrow++[vrow ⟨u.name,u.w⟩]) false):=by rw [c5 _ hne];exact q4
      obtain ⟨σ6,f6,n6,q6,c6⟩:=app_v (new:=(l.drop k).map vrow) q5 (n:=k+1) (by simp;omega) (.inl rfl) (by simp;omega)
      have n6':σ.length<σ6.length:=by rw [n6,n5,n4,List.length_append];omega
      have s3:=src_last (σ:=σ3) (es:=2) (m:=1) (rows:=[vrow ⟨u.name,u.w⟩]) (fr:=false) rfl
      have t3:=src_p (σ:=σ2) (wide_v (l.take k))
      have t6:=src_p (σ:=σ5) (wide_v (l.drop k))
      have b1:=slc_take l k hple
      have b2:=slc_drop l k hple
      have e3:0+((l.take k).map vrow).length=k:=by simp;omega
      have e4:k+[vrow (⟨u.name,u.w⟩:V2)].length=k+1:=rfl
      have e6:k+1+((l.drop k).map vrow).length=(l.take k++[(⟨u.name,u.w⟩:V2)]++l.drop k).length:=by simp;omega
      rw [e3] at f3
      rw [e4] at f4
      rw [e6] at f6
      refine ⟨e_vn T r (.sl σ.length (l.take k++[(⟨u.name,u.w⟩:V2)]++l.drop k).length) (i+1:Nat),σ6,?_,_,rfl,.inr ⟨_,false,rfl,?_⟩⟩
      · simp only [vrow] at f4 s3
        have gch:=fun (m:Nat) (y:AV)=>gc_hi4 (σ:=σ6) (n:=σ.length) (m:=m) (T:=T) (r:=r) (y:=y) n6'
        cases hg:l[k]? with
        | none=>
          have hpl:((k:Int)<l.length)=False:=by
            have:=List.getElem?_eq_none_iff.1 hg
            simp;omega
          simp only [B0_r25_names]
          simp (disch:=omega) only [eqZ,↓gc_len,seval,-List.reduceReplicate,reduceCtorEq,allP,hlt,hui,urow,List.length_map,h1',k1_r25_names,hL,g0,g1,g5,g6,g7,hlen,hpl,f2,b1,t3,f3,s3,f4,f5,b2,t6,f6,gch,e_vn]
        | some a=>
          have hname:(a.name=u.name)=False:=by
            unfold hitN at hit
            rw [hk,hg] at hit
            simpa using hit
          obtain ⟨A,hA,A',hA',hl'⟩:=out_at hx hg
          have hpl:((k:Int)<l.length)=True:=by
            have:=(List.getElem?_eq_some_iff.1 hg).1
            simpa using this
          simp only [B0_r25_names]
          simp (disch:=omega) only [eqZ,↓gc_len,seval,-List.reduceReplicate,reduceCtorEq,allP,hlt,hui,urow,List.length_map,h1',k1_r25_names,hL,g0,g1,g5,g6,g7,hlen,hpl,hA,hA',hl',hname,f2,b1,t3,f3,s3,f4,f5,b2,t6,f6,gch,e_vn]
      · rw [q6]
        simp
  · obtain ⟨x,rfl,hx⟩:=hI
    rfl
set_option maxHeartbeats 4000000 in
theorem s_r25_names (T:List M3) (r:Int) (hT:T.length≤1000000):R P f_r25_names [.lst (T.map urow),.int .i64 (24+r)]=some (.lst ((insM r T).map vrow)):=by
  obtain ⟨e,σ,⟨x,rfl,hx⟩,h⟩:=l0_rnames T r hT
  rw [List.take_length] at hx
  have hpu:=out_pur hx
  have h':loopAt P L0_r25_names [(0,.p (.lst (T.map urow))),(1,.p (.int .i64 (24+r))),(5,.nils),(6,.p (.int .i64 0))] [] 83 none=_:=h
  simp only [e_vn] at h'
  (rw [r_r25_names (lbY rfl),F_r25_names];simp (disch:=omega) only [eqZ,↓gc_len,seval,-List.reduceReplicate,reduceCtorEq,allP,k0_r25_names,h',B0_r25_names,Int.lt_irrefl,List.length_map,hpu])
end Go.AE.S
