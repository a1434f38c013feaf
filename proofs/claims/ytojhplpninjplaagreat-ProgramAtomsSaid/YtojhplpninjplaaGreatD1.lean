import Derived.Test.YtojhplpninjplaaGreatD0
namespace Go.AE.S
open Go Go.AE
set_option linter.unusedSimpArgs false
set_option linter.unusedVariables false
variable {τ:Tm} {σ:Store} {rd:Option Nat}
def genT (t:Term):Bool:=t.pre.any fun u=>decide (u.w=0)
def atomE (a:Atom):Int:=if ¬ checkE a.pat false=0 then checkE a.pat false else if genT a.pat=true then 3 else if ¬ a.root=bs []∧nameOk a.root=false then 5 else 0
def chkA:List Atom→Int
  | []=>0
  | a :: r=>if atomE a=0 then chkA r else atomE a
theorem fold_chkA:∀ (l:List Atom) (i:Nat),foldE (S:=Unit) (T:=Int) (fun _ _ a=>if atomE a=0 then .inl () else .inr (atomE a)) i () l=if chkA l=0 then .inl () else .inr (chkA l)
  | [],i=>rfl
  | a :: r,i=>by
    unfold foldE chkA
    by_cases h:atomE a=0
    · simp only [h,if_true];exact fold_chkA r (i+1)
    · simp only [h,if_false]
abbrev e_ca (l:List Atom) (i:Int):List (Nat×AV):=[(0,.p (.lst (l.map Atom.row))),(19,.p (.lst (l.map Atom.row))),(20,.p (.int .i64 l.length)),(21,.p (.int .i64 i))]
set_option maxHeartbeats 16000000 in
theorem l0_CheckAtoms (l:List Atom) (hl:l.length≤1000000) (ht:∀ a∈l,TOk a.pat∧a.pat.count≤1000000) :
    doneP (fun _:Unit=>loopAt P L0_program_CheckAtoms (e_ca l 0) [] 75 none=some (.exit 0,⟨upd (tm (e_ca l l.length)) 22 (.p (.bool false)),[],75,none⟩)) (fun e:Int=>∃ r,loopAt P L0_program_CheckAtoms (e_ca l 0) [] 75 none=some r∧ret1 2 (.int .i64 e) [] r) (if chkA l=0 then .inl () else .inr (chkA l)):=by
  have h:=loop_foldE (P:=P) (nt:=75) (rd:=none) (lv:=[0,19,20,21]) (b:=B0_program_CheckAtoms) (x:=0) (as:=l) (fun i (_:Unit)=>e_ca l i) (fun _=>[]) (fun _ _ a=>if atomE a=0 then .inl () else .inr (atomE a))
    (fun _=>⟨upd (tm (e_ca l l.length)) 22 (.p (.bool false)),[],75,none⟩) (fun e=>ret1 2 (.int .i64 e) []) (fun _ _=>True)
    (fun i a s ha hi hs=>by
      refine ⟨fun _ _=>trivial,?_⟩
      have hma:=List.mem_of_getElem? ha
      have hlt:((i:Int)<l.length)=True:=by simpa using hi
      have hx:=fun σ=>v_iadr (k:=.i64) (es:=6) (σ:=σ) (map_get (f:=Atom.row) ha) a.row_len
      have c1:=s_pattern_Check a.pat false (ht a hma).1 (ht a hma).2
      have c2:=s_pattern_Generic a.pat (ht a hma).2
      have c3:=s_term_Name a.root
      rcases Classical.propComplete (checkE a.pat false=0) with h1 | h1
      rotate_left
      · have h1':=of_eq_false h1
        have e:atomE a=checkE a.pat false:=by unfold atomE;rw [if_pos h1']
        rw [e,if_neg h1']
        simp only [B0_program_CheckAtoms]
        simp (disch:=omega) only [eqZ,↓gc_len,seval,-List.reduceReplicate,reduceCtorEq,allP,hlt,hx,a_load,a_cells,a_root,a_w,a_pat,q_pattern_Check,c1,h1,e_ca,ret1]
      have h1':=of_eq_true h1
      have c2':R P f_pattern_Generic [.agg a.pat.row]=some (.bool (genT a.pat)):=c2
      cases hg:genT a.pat with
      | true=>
        rw [hg] at c2'
        have e:atomE a=3:=by unfold atomE;rw [if_neg (not_not_intro h1'),hg,if_pos rfl]
        rw [e,if_neg (by decide)]
        simp only [B0_program_CheckAtoms]
        simp (disch:=omega) only [eqZ,↓gc_len,seval,-List.reduceReplicate,reduceCtorEq,allP,hlt,hx,a_load,a_cells,a_root,a_w,a_pat,q_pattern_Check,c1,h1,q_pattern_Generic,c2',e_ca,ret1]
      | false=>
        rw [hg] at c2'
        have e0:atomE a=if ¬ a.root=bs []∧nameOk a.root=false then 5 else 0:=by unfold atomE;rw [if_neg (not_not_intro h1'),hg,if_neg (by decide)]
        rcases Classical.propComplete (a.root=bs []) with h2 | h2
        · have h2':=of_eq_true h2
          have e:atomE a=0:=by rw [e0];exact if_neg (fun h=>h.1 h2')
          rw [e,if_pos rfl]
          simp only [B0_program_CheckAtoms]
          simp (disch:=omega) only [eqZ,↓gc_len,seval,-List.reduceReplicate,reduceCtorEq,allP,hlt,hx,a_load,a_cells,a_root,a_w,a_pat,q_pattern_Check,c1,h1,q_pattern_Generic,c2',h2,e_ca,ret1]
        · have h2':=of_eq_false h2
          cases hn:nameOk a.root with
          | true=>
            rw [hn] at c3 e0
            have e:atomE a=0:=by rw [e0];exact if_neg (fun h=>by cases h.2)
            rw [e,if_pos rfl]
            simp only [B0_program_CheckAtoms]
            simp (disch:=omega) only [eqZ,↓gc_len,seval,-List.reduceReplicate,reduceCtorEq,allP,hlt,hx,a_load,a_cells,a_root,a_w,a_pat,q_pattern_Check,c1,h1,q_pattern_Generic,c2',h2,q_term_Name,c3,e_ca,ret1]
          | false=>
            rw [hn] at c3 e0
            have e:atomE a=5:=by rw [e0];exact if_pos ⟨h2',rfl⟩
            rw [e,if_neg (by decide)]
            simp only [B0_program_CheckAtoms]
            simp (disch:=omega) only [eqZ,↓gc_len,seval,-List.reduceReplicate,reduceCtorEq,allP,hlt,hx,a_load,a_cells,a_root,a_w,a_pat,q_pattern_Check,c1,h1,q_pattern_Generic,c2',h2,q_term_Name,c3,e_ca,ret1]) (fun s hs=>by
      simp only [B0_program_CheckAtoms]
      simp (disch:=omega) only [eqZ,↓gc_len,seval,-List.reduceReplicate,reduceCtorEq,allP,Int.lt_irrefl]) (fun i s=>rfl) () trivial
  rw [fold_chkA] at h
  exact h
def entM (e:ByteArray×M3):PV×AV:=(.str e.1,.p (.agg (mrow e.2)))
def lkM:List (ByteArray×M3)→ByteArray→Option M3
  | [],_=>none
  | e :: r,k=>if k=e.1 then some e.2 else lkM r k
def stM (u:M3):List (ByteArray×M3)→List (ByteArray×M3)
  | []=>[(u.name,u)]
  | e :: r=>if u.name=e.1 then (u.name,u) :: r else e :: stM u r
theorem find_entM (k:ByteArray):∀ s:List (ByteArray×M3),findKey .str (.str k) (s.map entM)=some ((lkM s k).map fun u=>.p (.agg (mrow u)))
  | []=>rfl
  | e :: r=>by
    simp only [List.map_cons,findKey,entM,eq_str,lkM]
    by_cases h:k=e.1
    · simp [h]
    · simp only [h,decide_false,if_false]
      exact find_entM k r
theorem set_entM (u:M3):∀ s:List (ByteArray×M3),setKey .str (.str u.name) (.p (.agg (mrow u))) (s.map entM)=some ((stM u s).map entM)
  | []=>rfl
  | e :: r=>by
    simp only [List.map_cons,setKey,entM,eq_str,stM]
    by_cases h:u.name=e.1
    · simp [h,entM]
    · simp only [h,decide_false,if_false]
      rw [set_entM u r];rfl
theorem m3_ext {a b:M3}:a=b↔a.name=b.name∧a.w=b.w∧a.role=b.role:=by
  cases a;cases b;simp
instance:DecidableEq M3:=fun a b=>decidable_of_iff (a.name=b.name∧a.w=b.w∧a.role=b.role) m3_ext.symm
def bindM (s:List (ByteArray×M3)) (m:M3):List (ByteArray×M3) ⊕ Unit :=
  match lkM s m.name with
  | some o=>if o=m then .inl (stM m s) else .inr ()
  | none=>.inl (stM m s)
theorem v_lookup_0 {es:List (PV×AV)} {r:Store} {kl:Leaf} {k:PV} {z:AV}:lookupV (.map es false :: r) kl z (.map 0) (.p k) true=if isLeaf kl k=true then (findKey kl k es).bind fun o:Option AV=>some (mkTup [o.getD z,.p (.bool o.isSome)]) else none:=rfl
theorem v_mupd_0 {es es':List (PV×AV)} {r:Store} {kl:Leaf} {k:PV} {v:AV} (h:isLeaf kl k=true) (h':setKey kl k v es=some es'):mupdV (.map es false :: r) kl (.map 0) (.p k) v=some (.any,.map es' false :: r):=by
  simp [mupdV,h,h']
abbrev e_cb (l:List M3) (i:Int):List (Nat×AV):=[(6,.map 0),(46,.p (.lst (l.map mrow))),(47,.p (.int .i64 l.length)),(48,.p (.int .i64 i))]
theorem eqc_m (a b:M3):eqCells [.str,.int,.int] (mrow a) (mrow b)=some (decide (a=b)):=by
  simp only [mrow,eqCells,eq_str,Option.bind_some,Option.map_some,eqLeaf,if_true]
  congr 1
  rw [Bool.eq_iff_iff]
  simp [m3_ext,bytes_ext]
abbrev sBm (s:List (ByteArray×M3)):Store:=[.map (s.map entM) false]
theorem eqm (a b:M3):eqAV true [.str,.int,.int] (.p (.agg (mrow a))) (.p (.agg (mrow b)))=some (.p (.bool !decide (a=b))):=by
  simp only [eqAV,eqc_m,Option.map_some,if_true]
def z3:M3:=⟨bs [],0,0⟩
theorem lk_none {s:List (ByteArray×M3)} {k:ByteArray} (h:lkM s k=none):lookupV (sBm s) .str (.p (.agg [.str (bs []),.int .i64 0,.int .i64 0])) (.map 0) (.p (.str k)) true=some (.p (.tup [.agg (mrow z3),.bool false])):=by
  rw [v_lookup_0,find_entM,h];rfl
theorem lk_some {s:List (ByteArray×M3)} {k:ByteArray} {o:M3} {z:AV} (h:lkM s k=some o):lookupV (sBm s) .str z (.map 0) (.p (.str k)) true=some (.p (.tup [.agg (mrow o),.bool true])):=by
  rw [v_lookup_0,find_entM,h];rfl
theorem stM_len (m:M3):∀ s,(stM m s).length≤s.length+1
  | []=>by simp [stM]
  | e :: r=>by
    unfold stM
    split
    · simp
    · have:=stM_len m r;simp;omega
set_option maxHeartbeats 16000000 in
theorem l1_CheckAtoms (l:List M3) (hl:l.length≤1000000) :
    doneP (fun s=>loopAt P L1_program_CheckAtoms (e_cb l 0) (sBm []) 75 none=some (.exit 2,⟨upd (tm (e_cb l l.length)) 49 (.p (.bool false)),sBm s,75,none⟩)) (fun _:Unit=>∃ r,loopAt P L1_program_CheckAtoms (e_cb l 0) (sBm []) 75 none=some r∧r.1=.ret∧r.2.τ.get 2=.p (.int .i64 12)) (foldE (fun _ s m=>bindM s m) 0 [] l):=by
  exact loop_foldE (P:=P) (nt:=75) (rd:=none) (lv:=[6,46,47,48]) (b:=B1_program_CheckAtoms) (x:=2) (as:=l) (fun i (_:List (ByteArray×M3))=>e_cb l i) sBm (fun _ s m=>bindM s m)
    (fun s=>⟨upd (tm (e_cb l l.length)) 49 (.p (.bool false)),sBm s,75,none⟩) (fun _ r=>r.1=.ret∧r.2.τ.get 2=.p (.int .i64 12)) (fun i s=>s.length≤i)
    (fun i m s ha hi hs=>by
      have hlt:((i:Int)<l.length)=True:=by simpa using hi
      have hx:=fun σ=>v_iadr (k:=.i64) (es:=3) (σ:=σ) (map_get (f:=mrow) ha) (by simp [mrow])
      have hsl:=stM_len m s
      have hset:=fun (r:Store)=>v_mupd_0 (r:=r) (kl:=.str) (k:=.str m.name) rfl (set_entM m s)
      refine ⟨fun s' he=>?_,?_⟩
      · unfold bindM at he
        split at he
        · split at he
          · cases he;omega
          · cases he
        · cases he;omega
      unfold bindM
      cases hk:lkM s m.name with
      | none=>
        have hf:=lk_none hk
        simp only [B1_program_CheckAtoms]
        simp (disch:=omega) only [eqZ,↓gc_len,seval,-List.reduceReplicate,reduceCtorEq,allP,hlt,hx,m_load,m_cells,m_0,m_2,hf,hset,e_cb]
      | some o=>
        have hf:=fun z=>lk_some (z:=z) hk
        simp only
        rcases Classical.propComplete (o=m) with h1 | h1
        · have h1':=of_eq_true h1
          subst h1'
          have e:=eqm o o
          rw [decide_eq_true rfl] at e
          simp only [if_true]
          simp only [B1_program_CheckAtoms]
          simp (disch:=omega) only [eqZ,↓gc_len,seval,-List.reduceReplicate,reduceCtorEq,allP,hlt,hx,m_load,m_cells,m_0,m_2,hf,hset,e_cb,e]
        · have h1':=of_eq_false h1
          have e:=eqm o m
          rw [decide_eq_false h1'] at e
          rw [if_neg h1']
          simp only [B1_program_CheckAtoms]
          simp (disch:=omega) only [eqZ,↓gc_len,seval,-List.reduceReplicate,reduceCtorEq,allP,hlt,hx,m_load,m_cells,m_0,m_2,hf,hset,e_cb,e]) (fun s hs=>by
      simp only [B1_program_CheckAtoms]
      simp (disch:=omega) only [eqZ,↓gc_len,seval,-List.reduceReplicate,reduceCtorEq,allP,Int.lt_irrefl]) (fun i s=>rfl) [] (by simp)
def bindE (l:List M3):Int:=match foldE (fun _ s m=>bindM s m) 0 [] l with
  | .inl s=>if 16<(s.length:Int) then 7 else 0
  | .inr _=>12
def atomsE (l:List Atom):Int:=if (l.length:Int)<1∨4<(l.length:Int) then 7 else if ¬ chkA l=0 then chkA l else bindE (l.flatMap mentA)
theorem v_lenM_0 {es:List (PV×AV)} {r:Store}:lenMV (.map es false :: r) (.map 0)=some (.p (.int .i64 es.length)):=rfl
set_option maxHeartbeats 16000000 in
theorem s_program_CheckAtoms (l:List Atom) (hl:l.length≤1000000) (hm:(l.flatMap mentA).length≤1000000) (ht:∀ a∈l,TOk a.pat∧a.pat.count≤1000000):R P f_program_CheckAtoms [.lst (l.map Atom.row)]=some (.int .i64 (atomsE l)):=by
  unfold atomsE
  by_cases g1:(l.length:Int)<1
  · rw [if_pos (.inl g1)]
    (rw [r_program_CheckAtoms (lbY rfl),F_program_CheckAtoms];simp (disch:=omega) only [eqZ,↓gc_len,seval,-List.reduceReplicate,reduceCtorEq,allP,List.length_map,g1])
  by_cases g2:4<(l.length:Int)
  · rw [if_pos (.inr g2)]
    (rw [r_program_CheckAtoms (lbY rfl),F_program_CheckAtoms];simp (disch:=omega) only [eqZ,↓gc_len,seval,-List.reduceReplicate,reduceCtorEq,allP,List.length_map,g1,g2])
  rw [if_neg (by omega)]
  have h0:=l0_CheckAtoms l hl ht
  simp only [e_ca] at h0
  rcases Classical.propComplete (chkA l=0) with c0 | c0
  rotate_left
  · have c0':=of_eq_false c0
    rw [if_neg c0'] at h0
    rw [if_pos c0']
    obtain ⟨⟨e',τ',σ',nt',rd'⟩,k1,k2,k3,k4⟩:=h0
    simp only at k2 k3 k4
    subst k2
    (rw [r_program_CheckAtoms (lbY rfl),F_program_CheckAtoms];simp (disch:=omega) only [eqZ,↓gc_len,seval,-List.reduceReplicate,reduceCtorEq,allP,List.length_map,g1,g2,k0_program_CheckAtoms,k1,k3,k4])
  · have c0':=of_eq_true c0
    rw [if_pos c0'] at h0
    have h0':loopAt P L0_program_CheckAtoms [(0,.p (.lst (l.map Atom.row))),(19,.p (.lst (l.map Atom.row))),(20,.p (.int .i64 l.length)),(21,.p (.int .i64 0))] [] 75 none=_:=h0
    rw [if_neg (not_not_intro c0')]
    have hs:=s_mentions l hl hm ht
    have hL:=l1_CheckAtoms (l.flatMap mentA) hm
    generalize l.flatMap mentA=T at *
    unfold bindE
    simp only [e_cb,sBm,List.map_nil] at hL
    cases hf:foldE (fun _ s m=>bindM s m) 0 [] T with
    | inr x=>
      rw [hf] at hL
      obtain ⟨⟨e',τ',σ',nt',rd'⟩,k1,k2,k3⟩:=hL
      simp only at k2 k3
      subst k2
      (rw [r_program_CheckAtoms (lbY rfl),F_program_CheckAtoms];simp (disch:=omega) only [eqZ,↓gc_len,seval,-List.reduceReplicate,reduceCtorEq,allP,List.length_map,g1,g2,k0_program_CheckAtoms,h0',q_program_mentions,hs,k1_program_CheckAtoms,k1,k3])
    | inl s=>
      rw [hf] at hL
      have hL':loopAt P L1_program_CheckAtoms [(6,.map 0),(46,.p (.lst (T.map mrow))),(47,.p (.int .i64 T.length)),(48,.p (.int .i64 0))] [.map [] false] 75 none=_:=hL
      by_cases g3:(16:Int)<s.length
      · simp only [g3,if_true]
        (rw [r_program_CheckAtoms (lbY rfl),F_program_CheckAtoms];simp (disch:=omega) only [eqZ,↓gc_len,seval,-List.reduceReplicate,reduceCtorEq,allP,List.length_map,g1,g2,k0_program_CheckAtoms,h0',q_program_mentions,hs,k1_program_CheckAtoms,hL',v_lenM_0,g3])
      · simp only [g3,if_false]
        (rw [r_program_CheckAtoms (lbY rfl),F_program_CheckAtoms];simp (disch:=omega) only [eqZ,↓gc_len,seval,-List.reduceReplicate,reduceCtorEq,allP,List.length_map,g1,g2,k0_program_CheckAtoms,h0',q_program_mentions,hs,k1_program_CheckAtoms,hL',v_lenM_0,g3])
abbrev sU (s:List M3) (g:Store):Store:=.pv (esOf 3 s) (s.map urow) false :: g
abbrev e_us (s:List M3) (T:List Term) (i:Int):List (Nat×AV):=[(3,.sl 0 s.length),(4,.p (.lst (T.map Term.row))),(5,.p (.int .i64 i))]
theorem ap_u (s:List M3) (m:M3) (o:Int) (ho:o=24+m.role) (hs:s.length≤1000000000) {r:Store}:appendV (.pv (esOf 3 s) (s.map urow) false :: r) 3 32 (.sl 0 s.length) (some (.inl [[.str m.name,.int .i64 o,.int .i64 m.w]]))=some (.sl 0 (s.length+1),.pv (esOf 3 (s++[m])) ((s++[m]).map urow) false :: r):=by
  rw [v_append (σ:=.pv (esOf 3 s) (s.map urow) false :: r) (b:=0) (n:=s.length) (e:=esOf 3 s) (rows:=s.map urow) rfl (by simp) (esOf_or _ _ _) (by simp only [List.length_cons,List.length_nil];omega)]
  simp only [esOf_snoc,List.map_append,List.map_cons,List.map_nil,urow,List.set_cons_zero,List.length_cons,List.length_nil,Nat.zero_add,ho]
theorem build_u {q:ByteArray} {o w:Int} {z0 z1 z2:AV}:buildV [z0,z1,z2] [(0,1,.p (.str q)),(1,1,.p (.int .i64 o)),(2,1,.p (.int .i64 w))]=some (.p (.agg [.str q,.int .i64 o,.int .i64 w])):=rfl
theorem bs_u {q:ByteArray} {o w:Int} {z0 z1 z2:AV}:bsliceV σ 3 1 (fillP (List.replicate 1 [z0,z1,z2]).flatten [(0,3,.p (.agg [.str q,.int .i64 o,.int .i64 w]))])=some (.sl σ.length 1,σ++[.pv 3 [[.str q,.int .i64 o,.int .i64 w]] false]):=rfl
set_option maxHeartbeats 16000000 in
theorem l_uses0 (T:List Term) (s0:List M3) (hT:T.length≤1000000) (h0:s0.length≤1000000):∃ s,s=s0++T.flatMap mentU∧loopAt P L0_r25_uses (e_us s0 T 0) (sU s0 []) 61 none=back P [3,4,5] B0_r25_uses 1 (exec P B0_r25_uses ⟨tm (e_us s T T.length),sU s [],61,none⟩):=by
  obtain ⟨_,h⟩:=loop_run (P:=P) (nt:=61) (rd:=none) (lv:=[3,4,5]) (b:=B0_r25_uses) (as:=T) (fun i (s:List M3)=>e_us s T i) (fun s=>sU s []) (fun i s u=>s++mentU u) (fun i s=>s.length≤s0.length+i)
    (fun i u s ha hi hs=>by
      have hlt:((i:Int)<T.length)=True:=by simpa using hi
      have hx:=fun σ=>v_iadr (k:=.i64) (es:=5) (σ:=σ) (map_get (f:=Term.row) ha) u.row_len
      unfold mentU
      rcases Classical.propComplete (u.op=24) with h1 | h1
      · have h1':=of_eq_true h1
        have hap:=fun r=>ap_u (r:=r) s ⟨u.name,u.w,0⟩ u.op (by rw [h1'];rfl) (by omega)
        rw [if_pos h1']
        refine ⟨by rw [List.length_append];simp only [List.length_cons,List.length_nil];omega,?_⟩
        simp only [B0_r25_uses]
        simp (disch:=omega) only [eqZ,↓gc_len,seval,-List.reduceReplicate,reduceCtorEq,allP,hlt,hx,List.length_map,h1,e_us,build_u,bs_u,src_one,src_two,hap,List.length_append]
      · have h1':=of_eq_false h1
        rw [if_neg h1']
        rcases Classical.propComplete (u.op=25) with h2 | h2
        · have h2':=of_eq_true h2
          have hap:=fun r=>ap_u (r:=r) s ⟨u.name,u.w,1⟩ u.op (by rw [h2'];rfl) (by omega)
          rw [if_pos h2']
          refine ⟨by rw [List.length_append];simp only [List.length_cons,List.length_nil];omega,?_⟩
          simp only [B0_r25_uses]
          simp (disch:=omega) only [eqZ,↓gc_len,seval,-List.reduceReplicate,reduceCtorEq,allP,hlt,hx,List.length_map,h1,h2,e_us,build_u,bs_u,src_one,src_two,hap,List.length_append]
        · have h2':=of_eq_false h2
          rw [if_neg h2',List.append_nil]
          refine ⟨by omega,?_⟩
          simp only [B0_r25_uses]
          simp (disch:=omega) only [eqZ,↓gc_len,seval,-List.reduceReplicate,reduceCtorEq,allP,hlt,hx,List.length_map,h1,h2,e_us]) (fun i s=>rfl) s0 (by omega) _ (fold_flat mentU T 0 s0)
  exact ⟨_,rfl,h⟩
set_option maxHeartbeats 16000000 in
theorem l_uses1 (T:List Term) (s0:List M3) (x:List PV) (hT:T.length≤1000000) (h0:s0.length≤1000000):∃ s,s=s0++T.flatMap mentU∧loopAt P L0_r25_uses (e_us s0 T 0) (sU s0 [.pv 3 [x] false]) 61 none=back P [3,4,5] B0_r25_uses 2 (exec P B0_r25_uses ⟨tm (e_us s T T.length),sU s [.pv 3 [x] false],61,none⟩):=by
  obtain ⟨_,h⟩:=loop_run (P:=P) (nt:=61) (rd:=none) (lv:=[3,4,5]) (b:=B0_r25_uses) (as:=T) (fun i (s:List M3)=>e_us s T i) (fun s=>sU s [.pv 3 [x] false]) (fun i s u=>s++mentU u) (fun i s=>s.length≤s0.length+i)
    (fun i u s ha hi hs=>by
      have hlt:((i:Int)<T.length)=True:=by simpa using hi
      have hx:=fun σ=>v_iadr (k:=.i64) (es:=5) (σ:=σ) (map_get (f:=Term.row) ha) u.row_len
      unfold mentU
      rcases Classical.propComplete (u.op=24) with h1 | h1
      · have h1':=of_eq_true h1
        have hap:=fun r=>ap_u (r:=r) s ⟨u.name,u.w,0⟩ u.op (by rw [h1'];rfl) (by omega)
        rw [if_pos h1']
        refine ⟨by rw [List.length_append];simp only [List.length_cons,List.length_nil];omega,?_⟩
        simp only [B0_r25_uses]
        simp (disch:=omega) only [eqZ,↓gc_len,seval,-List.reduceReplicate,reduceCtorEq,allP,hlt,hx,List.length_map,h1,e_us,build_u,bs_u,src_one,src_two,hap,List.length_append]
      · have h1':=of_eq_false h1
        rw [if_neg h1']
        rcases Classical.propComplete (u.op=25) with h2 | h2
        · have h2':=of_eq_true h2
          have hap:=fun r=>ap_u (r:=r) s ⟨u.name,u.w,1⟩ u.op (by rw [h2'];rfl) (by omega)
          rw [if_pos h2']
          refine ⟨by rw [List.length_append];simp only [List.length_cons,List.length_nil];omega,?_⟩
          simp only [B0_r25_uses]
          simp (disch:=omega) only [eqZ,↓gc_len,seval,-List.reduceReplicate,reduceCtorEq,allP,hlt,hx,List.length_map,h1,h2,e_us,build_u,bs_u,src_one,src_two,hap,List.length_append]
        · have h2':=of_eq_false h2
          rw [if_neg h2',List.append_nil]
          refine ⟨by omega,?_⟩
          simp only [B0_r25_uses]
          simp (disch:=omega) only [eqZ,↓gc_len,seval,-List.reduceReplicate,reduceCtorEq,allP,hlt,hx,List.length_map,h1,h2,e_us]) (fun i s=>rfl) s0 (by omega) _ (fold_flat mentU T 0 s0)
  exact ⟨_,rfl,h⟩
set_option maxHeartbeats 8000000 in
theorem s_r25_uses (a:Atom) (hc:a.pat.count≤1000000):R P f_r25_uses [.agg a.row]=some (.lst ((mentA a).map urow)):=by
  have hp:=s_r06_Pre a.pat hc
  have hpl:=Term.pre_len a.pat
  rcases Classical.propComplete (a.root=bs []) with h1 | h1
  · have h1':=of_eq_true h1
    have e:mentA a=mentT a.pat:=by rw [mentA,mentR,if_pos h1',List.nil_append]
    obtain ⟨s,hs,hL⟩:=l_uses0 a.pat.pre [] (by omega) (by simp)
    rw [List.nil_append] at hs
    have hs:s=mentT a.pat:=hs
    subst hs
    simp only [e_us,sU,List.map_nil,List.length_nil] at hL
    have e0:esOf 3 ([]:List M3)=0:=rfl
    rw [e0] at hL
    rw [e]
    (rw [r_r25_uses (lbY rfl),F_r25_uses];simp (disch:=omega) only [eqZ,↓gc_len,seval,-List.reduceReplicate,reduceCtorEq,allP,a_load,a_cells,a_root,a_w,a_pat,h1,q_r06_Pre,hp,k0_r25_uses,hL,B0_r25_uses,Int.lt_irrefl,List.length_map])
  · have h1':=of_eq_false h1
    have e:mentA a=[⟨a.root,a.pat.w,0⟩]++mentT a.pat:=by rw [mentA,mentR,if_neg h1']
    obtain ⟨s,hs,hL⟩:=l_uses1 a.pat.pre [⟨a.root,a.pat.w,0⟩] [.str a.root,.int .i64 24,.int .i64 a.pat.w] (by omega) (by simp)
    have hs:s=[⟨a.root,a.pat.w,0⟩]++mentT a.pat:=hs
    rw [← hs] at e
    rw [e]
    have hap:=ap_u (r:=[.pv 3 [[.str a.root,.int .i64 24,.int .i64 a.pat.w]] false]) [] ⟨a.root,a.pat.w,0⟩ 24 rfl (by simp)
    have e0:esOf 3 ([]:List M3)=0:=rfl
    have e1':esOf 3 [(⟨a.root,a.pat.w,0⟩:M3)]=3:=rfl
    simp only [e0,e1',List.map_cons,List.map_nil,List.length_nil,List.nil_append,Nat.zero_add] at hap
    simp only [e_us,sU,e1',List.map_cons,List.map_nil,List.length_cons,List.length_nil,Nat.zero_add] at hL
    (rw [r_r25_uses (lbY rfl),F_r25_uses];simp (disch:=omega) only [eqZ,↓gc_len,seval,-List.reduceReplicate,reduceCtorEq,allP,a_load,a_cells,a_root,a_w,a_pat,h1,build_u,bs_u,src_one,src_two,hap,q_r06_Pre,hp,k0_r25_uses,hL,B0_r25_uses,Int.lt_irrefl,List.length_map])
theorem fold_alA {α β:Type} (g:α→List β):∀ (l:List α) (i:Nat) (s:List β) (b:Bool),foldE (T:=Empty) (fun _ s a=>.inl (s.1++g a,true)) i (s,b) l=.inl (s++l.flatMap g,b || !l.isEmpty)
  | [],i,s,b=>by simp [foldE]
  | a :: l,i,s,b=>by
    simp only [foldE]
    rw [fold_alA g l (i+1) (s++g a) true,List.flatMap_cons,List.append_assoc]
    simp
def esB (b:Bool):Nat:=if b=true then 3 else 0
theorem wide_u (s:List M3):wide 3 (s.map urow)=true:=by simp [wide,urow]
abbrev e_al (l:List Atom) (n:Nat) (i:Int):List (Nat×AV):=[(0,.p (.lst (l.map Atom.row))),(3,.sl 0 n),(4,.p (.int .i64 i))]
theorem ap_al (s:List M3) (b:Bool) (m:List M3) (hb:b=false→s=[]) (hs:s.length+m.length≤1000000000):appendV [.pv (esB b) (s.map urow) false] 3 32 (.sl 0 s.length) (some (.inl (m.map urow)))=some (.sl 0 (s++m).length,[.pv 3 ((s++m).map urow) false]):=by
  rw [v_append (σ:=[.pv (esB b) (s.map urow) false]) (b:=0) (n:=s.length) (e:=esB b) (rows:=s.map urow) rfl (by simp) (by cases b with | true=>exact .inl rfl | false=>exact .inr ⟨rfl,by rw [hb rfl];rfl⟩) (by rw [List.length_map];omega)]
  simp only [List.map_append,List.length_map,List.length_append,List.set_cons_zero]
set_option maxHeartbeats 8000000 in
theorem s_r25_all (l:List Atom) (hl:l.length≤1000000) (hm:(l.flatMap mentA).length≤1000000) (ht:∀ a∈l,TOk a.pat∧a.pat.count≤1000000):R P f_r25_all [.lst (l.map Atom.row)]=some (.lst ((l.flatMap mentA).map urow)):=by
  obtain ⟨_,h⟩:=loop_run (P:=P) (nt:=19) (rd:=none) (lv:=[0,3,4]) (b:=B0_r25_all) (as:=l) (fun i (s:List M3×Bool)=>e_al l s.1.length i) (fun s=>[.pv (esB s.2) (s.1.map urow) false]) (fun i s a=>(s.1++mentA a,true)) (fun i s=>s.1=(l.take i).flatMap mentA∧(s.2=false→s.1=[]))
    (fun i a s ha hi hs=>by
      obtain ⟨s1,b⟩:=s
      simp only at hs
      have hf:=flat_take mentA l i a ha
      rw [← hs.1] at hf
      refine ⟨⟨by rw [hs.1];exact (take_flat mentA ha).symm,fun h=>by cases h⟩,?_⟩
      have hma:=List.mem_of_getElem? ha
      have hlt:((i:Int)<l.length)=True:=by simpa using hi
      have hx:=fun σ=>v_iadr (k:=.i64) (es:=6) (σ:=σ) (map_get (f:=Atom.row) ha) a.row_len
      have hu:=s_r25_uses a (ht a hma).2
      have hap:=ap_al s1 b (mentA a) hs.2 (by omega)
      have hsr:=fun σ=>src_p (σ:=σ) (wide_u (mentA a))
      simp only [B0_r25_all]
      simp (disch:=omega) only [eqZ,↓gc_len,seval,-List.reduceReplicate,reduceCtorEq,allP,hlt,hx,List.length_map,a_load,a_cells,q_r25_uses,hu,hsr,hap,e_al]
      simp only [esB,if_true]) (fun i s=>rfl) ([],false) ⟨by simp,fun _=>rfl⟩ _ (fold_alA mentA l 0 [] false)
  rw [List.nil_append] at h
  have h':loopAt P L0_r25_all (e_al l 0 0) [.pv 0 [] false] 19 none=_:=h
  simp only [e_al] at h'
  (rw [r_r25_all (lbY rfl),F_r25_all];simp (disch:=omega) only [eqZ,↓gc_len,seval,-List.reduceReplicate,reduceCtorEq,allP,k0_r25_all,h',B0_r25_all,Int.lt_irrefl,List.length_map])
theorem s_r25_Names (l:List Atom) (hl:l.length≤1000000) (hm:(l.flatMap mentA).length≤1000000) (ht:∀ a∈l,TOk a.pat∧a.pat.count≤1000000):R P f_r25_Names [.lst (l.map Atom.row)]=some (.tup [.lst ((insM 0 (l.flatMap mentA)).map vrow),.lst ((insM 1 (l.flatMap mentA)).map vrow)]):=by
  have h0:=s_r25_all l hl hm ht
  have h1:=s_r25_names (l.flatMap mentA) 0 hm
  have h2:=s_r25_names (l.flatMap mentA) 1 hm
  have e1:(24:Int)+0=24:=rfl
  have e2:(24:Int)+1=25:=rfl
  rw [e1] at h1
  rw [e2] at h2
  (rw [r_r25_Names (lbY rfl),F_r25_Names];simp (disch:=omega) only [eqZ,↓gc_len,seval,-List.reduceReplicate,reduceCtorEq,allP,q_r25_all,h0,q_r25_names,h1,h2])
set_option maxHeartbeats 16000000 in
theorem l0_rCheckAtoms (l:List Atom) (hl:l.length≤1000000) (ht:∀ a∈l,TOk a.pat∧a.pat.count≤1000000) :
    doneP (fun _:Unit=>True∧loopAt P L0_r25_CheckAtoms [(0,.p (.lst (l.map Atom.row))),(3,.p (.int .i64 0))] [] 98 none=back P [0,3] B0_r25_CheckAtoms 0 (exec P B0_r25_CheckAtoms ⟨tm [(0,.p (.lst (l.map Atom.row))),(3,.p (.int .i64 l.length))],[],98,none⟩)) (fun e:Int=>∃ r,loopAt P L0_r25_CheckAtoms [(0,.p (.lst (l.map Atom.row))),(3,.p (.int .i64 0))] [] 98 none=some r∧ret1 2 (.int .i64 e) [] r) (if chkA l=0 then .inl () else .inr (chkA l)):=by
  have h:=loop_to (P:=P) (nt:=98) (rd:=none) (lv:=[0,3]) (b:=B0_r25_CheckAtoms) (as:=l) (fun i (_:Unit)=>[(0,.p (.lst (l.map Atom.row))),(3,.p (.int .i64 (i:Int)))]) (fun _=>[]) (fun _ _ a=>if atomE a=0 then .inl () else .inr (atomE a))
    (fun e=>ret1 2 (.int .i64 e) []) (fun _ _=>True)
    (fun i a s ha hi hs=>by
      refine ⟨fun _ _=>trivial,?_⟩
      have hma:=List.mem_of_getElem? ha
      have hlt:((i:Int)<l.length)=True:=by simpa using hi
      have hx:=fun σ=>v_iadr (k:=.i64) (es:=6) (σ:=σ) (map_get (f:=Atom.row) ha) a.row_len
      have c1:=s_r24_Check a.pat false (ht a hma).1 (ht a hma).2
      have c2:=s_r24_Generic a.pat (ht a hma).2
      have c3:=s_r06_Name a.root
      rcases Classical.propComplete (checkE a.pat false=0) with h1 | h1
      rotate_left
      · have h1':=of_eq_false h1
        have e:atomE a=checkE a.pat false:=by unfold atomE;rw [if_pos h1']
        rw [e,if_neg h1']
        simp only [B0_r25_CheckAtoms]
        simp (disch:=omega) only [eqZ,↓gc_len,seval,-List.reduceReplicate,reduceCtorEq,allP,hlt,hx,List.length_map,a_load,a_cells,a_root,a_w,a_pat,q_r24_Check,c1,h1,ret1]
      have h1':=of_eq_true h1
      have c2':R P f_r24_Generic [.agg a.pat.row]=some (.bool (genT a.pat)):=c2
      cases hg:genT a.pat with
      | true=>
        rw [hg] at c2'
        have e:atomE a=3:=by unfold atomE;rw [if_neg (not_not_intro h1'),hg,if_pos rfl]
        rw [e,if_neg (by decide)]
        simp only [B0_r25_CheckAtoms]
        simp (disch:=omega) only [eqZ,↓gc_len,seval,-List.reduceReplicate,reduceCtorEq,allP,hlt,hx,List.length_map,a_load,a_cells,a_root,a_w,a_pat,q_r24_Check,c1,h1,q_r24_Generic,c2',ret1]
      | false=>
        rw [hg] at c2'
        have e0:atomE a=if ¬ a.root=bs []∧nameOk a.root=false then 5 else 0:=by unfold atomE;rw [if_neg (not_not_intro h1'),hg,if_neg (by decide)]
        rcases Classical.propComplete (a.root=bs []) with h2 | h2
        · have h2':=of_eq_true h2
          have e:atomE a=0:=by rw [e0];exact if_neg (fun h=>h.1 h2')
          rw [e,if_pos rfl]
          simp only [B0_r25_CheckAtoms]
          simp (disch:=omega) only [eqZ,↓gc_len,seval,-List.reduceReplicate,reduceCtorEq,allP,hlt,hx,List.length_map,a_load,a_cells,a_root,a_w,a_pat,q_r24_Check,c1,h1,q_r24_Generic,c2',h2,ret1]
        · have h2':=of_eq_false h2
          cases hn:nameOk a.root with
          | true=>
            rw [hn] at c3 e0
            have e:atomE a=0:=by rw [e0];exact if_neg (fun h=>by cases h.2)
            rw [e,if_pos rfl]
            simp only [B0_r25_CheckAtoms]
            simp (disch:=omega) only [eqZ,↓gc_len,seval,-List.reduceReplicate,reduceCtorEq,allP,hlt,hx,List.length_map,a_load,a_cells,a_root,a_w,a_pat,q_r24_Check,c1,h1,q_r24_Generic,c2',h2,q_r06_Name,c3,ret1]
          | false=>
            rw [hn] at c3 e0
            have e:atomE a=5:=by rw [e0];exact if_pos ⟨h2',rfl⟩
            rw [e,if_neg (by decide)]
            simp only [B0_r25_CheckAtoms]
            simp (disch:=omega) only [eqZ,↓gc_len,seval,-List.reduceReplicate,reduceCtorEq,allP,hlt,hx,List.length_map,a_load,a_cells,a_root,a_w,a_pat,q_r24_Check,c1,h1,q_r24_Generic,c2',h2,q_r06_Name,c3,ret1]) (fun i s=>rfl) () trivial
  rw [fold_chkA] at h
  exact h
def clashM (u v:M3):Bool:=decide (v.name=u.name) && !decide (u=v)
theorem urow_inj (a b:M3):eqAV true [.str,.int,.int] (.p (.agg (urow a))) (.p (.agg (urow b)))=some (.p (.bool !decide (a=b))):=by
  have e:eqCells [.str,.int,.int] (urow a) (urow b)=some (decide (a=b)):=by
    simp only [urow,eqCells,eq_str,Option.bind_some,Option.map_some,eqLeaf,if_true]
    congr 1
    rw [Bool.eq_iff_iff]
    simp [m3_ext,bytes_ext]
    intro _
    constructor
    · rintro ⟨h1,h2⟩
      exact ⟨h2,by omega⟩
    · rintro ⟨h1,h2⟩
      exact ⟨by omega,h1⟩
  simp only [eqAV,e,Option.map_some,if_true]
theorem fold_cl (u:M3):∀ (l:List M3) (i:Nat),foldE (S:=Unit) (T:=Unit) (fun _ _ v=>if clashM u v=true then .inr () else .inl ()) i () l=if l.any (clashM u)=true then .inr () else .inl ()
  | [],i=>rfl
  | a :: l,i=>by
    unfold foldE
    by_cases h:clashM u a=true
    · simp [h]
    · have h':clashM u a=false:=by simpa using h
      simp only [List.any_cons,h',Bool.false_or,Bool.false_eq_true,if_false]
      exact fold_cl u l (i+1)
theorem u_load (m:M3):loadV σ 3 true (.p (.ptr (urow m) 0))=some (.p (.agg (urow m))):=rfl
theorem u_0 (m:M3):(urow m)[0]? = some (.str m.name):=rfl
set_option maxHeartbeats 16000000 in
theorem l2_rCheckAtoms (T:List M3) (i:Nat) (u:M3) (hu:T[i]? = some u) (hl:T.length≤1000000) :
    doneP (fun _:Unit=>True∧loopAt P L2_r25_CheckAtoms [(5,.p (.lst (T.map urow))),(6,.p (.int .i64 i)),(7,.p (.int .i64 0))] [] 98 none=back P [5,6,7] B2_r25_CheckAtoms 0 (exec P B2_r25_CheckAtoms ⟨tm [(5,.p (.lst (T.map urow))),(6,.p (.int .i64 i)),(7,.p (.int .i64 i))],[],98,none⟩)) (fun _:Unit=>∃ r,loopAt P L2_r25_CheckAtoms [(5,.p (.lst (T.map urow))),(6,.p (.int .i64 i)),(7,.p (.int .i64 0))] [] 98 none=some r∧ret1 2 (.int .i64 12) [] r) (if (T.take i).any (clashM u)=true then .inr () else .inl ()):=by
  have hi:i<T.length:=(List.getElem?_eq_some_iff.1 hu).1
  have hlen:(T.take i).length=i:=by rw [List.length_take];omega
  have hui:=fun σ=>v_iadr (k:=.i64) (es:=3) (σ:=σ) (map_get (f:=urow) hu) (by simp [urow])
  have h:=loop_to (P:=P) (nt:=98) (rd:=none) (lv:=[5,6,7]) (b:=B2_r25_CheckAtoms) (as:=T.take i) (fun k (_:Unit)=>[(5,.p (.lst (T.map urow))),(6,.p (.int .i64 i)),(7,.p (.int .i64 (k:Int)))]) (fun _=>[]) (fun _ _ v=>if clashM u v=true then .inr () else .inl ())
    (fun _=>ret1 2 (.int .i64 12) []) (fun _ _=>True)
    (fun k v s hv hk hs=>by
      refine ⟨fun _ _=>trivial,?_⟩
      rw [hlen] at hk
      have hv':T[k]? = some v:=by rw [List.getElem?_take_of_lt hk] at hv;exact hv
      have hlt:((k:Int)<i)=True:=by simpa using hk
      have hvi:=fun σ=>v_iadr (k:=.i64) (es:=3) (σ:=σ) (map_get (f:=urow) hv') (by simp [urow])
      have e:=urow_inj u v
      unfold clashM
      rcases Classical.propComplete (u.name=v.name) with h1 | h1
      · have h1':=of_eq_true h1
        cases hd:decide (u=v) with
        | true=>
          rw [hd] at e
          rw [decide_eq_true h1'.symm]
          simp only [B2_r25_CheckAtoms,Bool.not_true,Bool.and_false]
          simp (disch:=omega) only [eqZ,↓gc_len,seval,-List.reduceReplicate,reduceCtorEq,allP,hlt,hvi,hui,u_load,u_0,h1,e,ret1]
        | false=>
          rw [hd] at e
          rw [decide_eq_true h1'.symm]
          simp only [B2_r25_CheckAtoms,Bool.not_false,Bool.and_true]
          simp (disch:=omega) only [eqZ,↓gc_len,seval,-List.reduceReplicate,reduceCtorEq,allP,hlt,hvi,hui,u_load,u_0,h1,e,ret1]
      · have h1':=of_eq_false h1
        rw [decide_eq_false (fun h=>h1' h.symm)]
        simp only [B2_r25_CheckAtoms,Bool.false_and]
        simp (disch:=omega) only [eqZ,↓gc_len,seval,-List.reduceReplicate,reduceCtorEq,allP,hlt,hvi,hui,u_load,u_0,h1,e,ret1]) (fun i s=>rfl) () trivial
  rw [fold_cl,hlen] at h
  exact h
end Go.AE.S
