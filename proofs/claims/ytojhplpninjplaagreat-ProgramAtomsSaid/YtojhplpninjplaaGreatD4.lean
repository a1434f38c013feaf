import Derived.Test.YtojhplpninjplaaGreatD3
namespace Go.AE.S
open Go Go.AE
set_option linter.unusedSimpArgs false
set_option linter.unusedVariables false
variable {τ:Tm} {σ:Store} {rd:Option Nat}
section
variable {p0 p1 p2 p3 p4 p5 p6 p7 p8 p9 pa pb pc pd:PV}
theorem ld14:loadV σ 14 true (.p (.ptr [p0,p1,p2,p3,p4,p5,p6,p7,p8,p9,pa,pb,pc,pd] 0))=some (.p (.agg [p0,p1,p2,p3,p4,p5,p6,p7,p8,p9,pa,pb,pc,pd])):=rfl
theorem ce14:cellsOf 14 true (.p (.agg [p0,p1,p2,p3,p4,p5,p6,p7,p8,p9,pa,pb,pc,pd]))=some [.p p0,.p p1,.p p2,.p p3,.p p4,.p p5,.p p6,.p p7,.p p8,.p p9,.p pa,.p pb,.p pc,.p pd]:=rfl
theorem in14 {n:Nat}:initV σ n true (some [.p p0,.p p1,.p p2,.p p3,.p p4,.p p5,.p p6,.p p7,.p p8,.p p9,.p pa,.p pb,.p pc,.p pd])=some (.p (.ptr [p0,p1,p2,p3,p4,p5,p6,p7,p8,p9,pa,pb,pc,pd] 0),σ):=rfl
end
abbrev mI (k:Int):PV×AV:=(.int .i64 k,.p (.bool true))
abbrev KS (m:List (PV×AV)) (n:Int):Store:=[.map m false,.map [] false,.av 3 [[.map 0,.map 1,.p (.int .i64 n)]] false]
abbrev pK:AV:=.ptr 2 1 0 0
theorem q3_0 {a b c:AV}:part 0 1 [a,b,c]=some [a]:=rfl
theorem q3_1 {a b c:AV}:part 1 1 [a,b,c]=some [b]:=rfl
theorem q3_2 {a b c:AV}:part 2 1 [a,b,c]=some [c]:=rfl
theorem lkn {n:Int} {m:List (PV×AV)} {k:Int} {b:Bool} (h:(findKey .int (.int .i64 k) m).map (fun o=>o.getD (.p (.bool false)))=some (.p (.bool b))):lookupV (KS m n) .int (.p (.bool false)) (.map 0) (.p (.int .i64 k)) false=some (.p (.bool b)):=by
  simp only [lookupV,lookV,isLeaf,if_true,List.getElem?_cons_zero]
  cases hf:findKey .int (.int .i64 k) m with
  | none=>rw [hf] at h;cases h
  | some o=>rw [hf] at h;simpa using h
theorem mun {n:Int} {m m':List (PV×AV)} {k:Int} (h:setKey .int (.int .i64 k) (.p (.bool true)) m=some m'):mupdV (KS m n) .int (.map 0) (.p (.int .i64 k)) (.p (.bool true))=some (.any,KS m' n):=by
  simp [mupdV,isLeaf,h]
set_option maxHeartbeats 4000000 in
theorem x_set {m m':List (PV×AV)} {k n:Int} (h0:0≤k) (hn:k<n) (h1:(findKey .int (.int .i64 k) m).map (fun o=>o.getD (.p (.bool false)))=some (.p (.bool false))) (h2:setKey .int (.int .i64 k) (.p (.bool true)) m=some m'):call P F_program_checker_set [pK,.p (.int .i64 k)] (KS m n)=some (.p (.bool true),KS m' n):=by
  have e1:(k ≥ 0)=True:=by simpa using h0
  have e2:(k<n)=True:=by simpa using hn
  have l:=lkn (n:=n) h1
  have u:=mun (n:=n) h2
  (rw [call_go (lbY rfl),F_program_checker_set];simp (disch:=omega) only [eqZ,↓gc_len,seval,-List.reduceReplicate,reduceCtorEq,allP,pK,KS,ncp,q3_0,q3_2,e1,e2,l,u])
theorem x_s0:call P F_program_checker_set [pK,.p (.int .i64 0)] (KS [] 3)=some (.p (.bool true),KS [mI 0] 3):=x_set (by decide) (by decide) rfl rfl
theorem x_s1:call P F_program_checker_set [pK,.p (.int .i64 1)] (KS [mI 0] 3)=some (.p (.bool true),KS [mI 0,mI 1] 3):=x_set (by decide) (by decide) rfl rfl
theorem x_s2:call P F_program_checker_set [pK,.p (.int .i64 2)] (KS [mI 0,mI 1] 3)=some (.p (.bool true),KS [mI 0,mI 1,mI 2] 3):=x_set (by decide) (by decide) rfl rfl
set_option maxHeartbeats 4000000 in
theorem x_i1:call P F_program_checker_instruction [pK,.p (.agg R1)] (KS [] 3)=some (.p (.bool true),KS [mI 0] 3):=by
  have h:=x_s0
  (rw [call_go (lbY rfl),F_program_checker_instruction];simp (disch:=omega) only [eqZ,↓gc_len,seval,-List.reduceReplicate,reduceCtorEq,allP,pK,KS,R1,rowP,ce14,in14,ld14,q_program_checker_set,h])
abbrev e_sal (k:Int):List (Nat×AV):=[(0,pK),(1,.p (.int .i64 1)),(8,.p (.int .i64 2)),(9,.p (.int .i64 k))]
set_option maxHeartbeats 4000000 in
theorem x_sa0:headOf [0,1,8,9] 3 (exec P B0_program_checker_setAll ⟨tm (e_sal 0),KS [mI 0] 3,27,none⟩)=some (.inl (e_sal 1,KS [mI 0,mI 1] 3,27,none)):=by
  have h:=x_s1
  simp only [B0_program_checker_setAll]
  simp (disch:=omega) only [eqZ,↓gc_len,seval,-List.reduceReplicate,reduceCtorEq,allP,pK,KS,e_sal,ncp,q3_2,w_10,w_1,w_2,q_program_checker_set,h]
set_option maxHeartbeats 4000000 in
theorem x_sa1:headOf [0,1,8,9] 3 (exec P B0_program_checker_setAll ⟨tm (e_sal 1),KS [mI 0,mI 1] 3,27,none⟩)=some (.inl (e_sal 2,KS [mI 0,mI 1,mI 2] 3,27,none)):=by
  have h:=x_s2
  simp only [B0_program_checker_setAll]
  simp (disch:=omega) only [eqZ,↓gc_len,seval,-List.reduceReplicate,reduceCtorEq,allP,pK,KS,e_sal,ncp,q3_2,w_10,w_1,w_2,q_program_checker_set,h]
set_option maxHeartbeats 4000000 in
theorem x_setAll:call P F_program_checker_setAll [pK,.p (.int .i64 1),.p (.int .i64 2)] (KS [mI 0] 3)=some (.p (.bool true),KS [mI 0,mI 1,mI 2] 3):=by
  have h:loopAt P L0_program_checker_setAll (e_sal 0) (KS [mI 0] 3) 27 none=some (.exit 0,⟨upd (tm (e_sal 2)) 10 (.p (.bool false)),KS [mI 0,mI 1,mI 2] 3,27,none⟩):=by
    refine (loop_next rfl x_sa0).trans ((loop_next rfl x_sa1).trans (loop_last rfl ?_))
    simp only [B0_program_checker_setAll]
    simp (disch:=omega) only [eqZ,↓gc_len,seval,-List.reduceReplicate,reduceCtorEq,allP,KS,pK,e_sal]
  simp only [KS,e_sal,pK] at h
  (rw [call_go (lbY rfl),F_program_checker_setAll];simp (disch:=omega) only [eqZ,↓gc_len,seval,-List.reduceReplicate,reduceCtorEq,allP,pK,KS,k0_program_checker_setAll,h])
theorem x_ar:R P f_opinfo_Arity [.int .i64 8]=some (.int .i64 2):=s_opinfo_Arity 8
theorem x_op:R P f_opinfo_Pattern [.int .i64 8]=some (.bool false):=s_opinfo_Pattern 8
theorem lk_k {m:List (PV×AV)}:lookupV (KS (mI 0 :: m) 3) .int (.p (.bool false)) (.map 0) (.p (.int .i64 0)) false=some (.p (.bool true)):=rfl
theorem lk_k1 {m:List (PV×AV)}:lookupV (KS (mI 0 :: mI 1 :: m) 3) .int (.p (.bool false)) (.map 0) (.p (.int .i64 1)) false=some (.p (.bool true)):=rfl
theorem lk_k2 {m:List (PV×AV)}:lookupV (KS (mI 0 :: mI 1 :: mI 2 :: m) 3) .int (.p (.bool false)) (.map 0) (.p (.int .i64 2)) false=some (.p (.bool true)):=rfl
set_option maxHeartbeats 4000000 in
theorem x_i2:call P F_program_checker_instruction [pK,.p (.agg R2)] (KS [mI 0] 3)=some (.p (.bool true),KS [mI 0,mI 1,mI 2] 3):=by
  have h:=x_setAll
  (rw [call_go (lbY rfl),F_program_checker_instruction];simp (disch:=omega) only [eqZ,↓gc_len,seval,-List.reduceReplicate,reduceCtorEq,allP,pK,KS,R2,rowP,ce14,in14,ld14,ncp,q3_0,lk_k,q_opinfo_Arity,x_ar,q_opinfo_Pattern,x_op,q_program_checker_setAll,h])
set_option maxHeartbeats 4000000 in
theorem x_i3:call P F_program_checker_instruction [pK,.p (.agg RI3)] (KS [mI 0,mI 1,mI 2] 3)=some (.p (.bool true),KS [mI 0,mI 1,mI 2] 3):=by
  (rw [call_go (lbY rfl),F_program_checker_instruction];simp (disch:=omega) only [eqZ,↓gc_len,seval,-List.reduceReplicate,reduceCtorEq,allP,pK,KS,RI3,rowP,ce14,in14,ld14,ncp,q3_0,lk_k1,lk_k2])
abbrev hS:List PV:=[.str (bs [97]),.int .i64 1]
abbrev mP:List (PV×PV):=[(.int .i64 0,.bool true),(.int .i64 1,.bool true),(.int .i64 2,.bool true)]
abbrev e_so (k:Int):List (Nat×AV):=[(0,.p (.lst [hS])),(1,.p (.pmap mP)),(7,.p (.lst [hS])),(8,.p (.int .i64 1)),(9,.p (.int .i64 k))]
theorem it_h:∀ σ,iadrSV σ 2 (.p (.lst [hS])) (.p (.int .i64 0))=some (.p (.ptr hS 0)):=fun σ=>v_iadr (k:=.i64) (es:=2) (σ:=σ) (i:=0) (rows:=[hS]) rfl rfl
theorem lk_p:lookupV σ .int (.p (.bool false)) (.p (.pmap mP)) (.p (.int .i64 1)) false=some (.p (.bool true)):=rfl
theorem ld2 {a b:PV}:loadV σ 2 true (.p (.ptr [a,b] 0))=some (.p (.agg [a,b])):=rfl
theorem st2 {a b c d:PV}:storeV [.pv 2 [[a,b]] false] 2 (.ptr 0 1 0 0) (.p (.agg [c,d]))=some [.pv 2 [[c,d]] false]:=rfl
theorem al2:allocV 2 (eagers [.p (.str (bs [])),.p (.int .i64 0)] [])=some (.ptr 0 1 0 0,[.pv 2 [[.str (bs []),.int .i64 0]] false]):=rfl
theorem ld_h {a b:PV}:ldO 1 0 1 1 false (some (.pv 2 [[a,b]] false))=some (.p b):=rfl
theorem gc_05 {a b c d e:PV} {o:Obj}:gc 0 [.p a,.p b,.p c,.p d,.p e] [o]=[]:=by simp [gc,gcOk,AE.below]
set_option maxHeartbeats 4000000 in
theorem x_so:headOf [0,1,7,8,9] 0 (exec P B0_program_slots ⟨tm (e_so 0),[],35,none⟩)=some (.inl (e_so 1,[],35,none)):=by
  simp only [B0_program_slots]
  simp (disch:=omega) only [eqZ,↓gc_len,seval,-List.reduceReplicate,reduceCtorEq,allP,e_so,hS,it_h,ld2,al2,st2,ld_h,lk_p,w_1,gc_05]
theorem x_slots:R P f_program_slots [.lst [hS],.pmap mP]=some (.bool true):=by
  have h:loopAt P L0_program_slots (e_so 0) [] 35 none=some (.exit 0,⟨upd (tm (e_so 1)) 10 (.p (.bool false)),[],35,none⟩):=by
    refine (loop_next rfl x_so).trans (loop_last rfl ?_)
    simp only [B0_program_slots]
    simp (disch:=omega) only [eqZ,↓gc_len,seval,-List.reduceReplicate,reduceCtorEq,allP,e_so]
  simp only [e_so] at h
  (rw [r_program_slots (lbY rfl),F_program_slots];simp (disch:=omega) only [eqZ,↓gc_len,seval,-List.reduceReplicate,reduceCtorEq,allP,k0_program_slots,h])
theorem x_slots0 {es:List (PV×PV)}:R P f_program_slots [.lst [],.pmap es]=some (.bool true):=by
  have h:loopAt P L0_program_slots [(0,.p (.lst [])),(1,.p (.pmap es)),(7,.p (.lst [])),(8,.p (.int .i64 0)),(9,.p (.int .i64 0))] [] 35 none=some (.exit 0,⟨upd (tm [(0,.p (.lst [])),(1,.p (.pmap es)),(7,.p (.lst [])),(8,.p (.int .i64 0)),(9,.p (.int .i64 0))]) 10 (.p (.bool false)),[],35,none⟩):=by
    refine loop_last rfl ?_
    simp only [B0_program_slots]
    simp (disch:=omega) only [eqZ,↓gc_len,seval,-List.reduceReplicate,reduceCtorEq,allP,e_so]
  (rw [r_program_slots (lbY rfl),F_program_slots];simp (disch:=omega) only [eqZ,↓gc_len,seval,-List.reduceReplicate,reduceCtorEq,allP,k0_program_slots,h])
abbrev e_ck (k:Int):List (Nat×AV):=[(1,.p (.ptr prA 0)),(3,pK),(29,.p (.lst [R1,R2,RI3])),(30,.p (.int .i64 3)),(31,.p (.int .i64 k))]
theorem it_r0:∀ σ,iadrSV σ 14 (.p (.lst [R1,R2,RI3])) (.p (.int .i64 0))=some (.p (.ptr R1 0)):=fun σ=>v_iadr (k:=.i64) (es:=14) (σ:=σ) (i:=0) (rows:=[R1,R2,RI3]) rfl rfl
theorem it_r1:∀ σ,iadrSV σ 14 (.p (.lst [R1,R2,RI3])) (.p (.int .i64 1))=some (.p (.ptr R2 0)):=fun σ=>v_iadr (k:=.i64) (es:=14) (σ:=σ) (i:=1) (rows:=[R1,R2,RI3]) rfl rfl
theorem it_r2:∀ σ,iadrSV σ 14 (.p (.lst [R1,R2,RI3])) (.p (.int .i64 2))=some (.p (.ptr RI3 0)):=fun σ=>v_iadr (k:=.i64) (es:=14) (σ:=σ) (i:=2) (rows:=[R1,R2,RI3]) rfl rfl
set_option maxHeartbeats 4000000 in
theorem x_k0:headOf [1,3,29,30,31] 3 (exec P B0_program_Check ⟨tm (e_ck 0),KS [] 3,95,none⟩)=some (.inl (e_ck 1,KS [mI 0] 3,95,none)):=by
  have h:=x_i1
  simp only [B0_program_Check]
  simp (disch:=omega) only [eqZ,↓gc_len,seval,-List.reduceReplicate,reduceCtorEq,allP,e_ck,pK,KS,it_r0,ld14,ce14,in14,q_program_checker_instruction,h,w_1]
set_option maxHeartbeats 4000000 in
theorem x_k1:headOf [1,3,29,30,31] 3 (exec P B0_program_Check ⟨tm (e_ck 1),KS [mI 0] 3,95,none⟩)=some (.inl (e_ck 2,KS [mI 0,mI 1,mI 2] 3,95,none)):=by
  have h:=x_i2
  simp only [B0_program_Check]
  simp (disch:=omega) only [eqZ,↓gc_len,seval,-List.reduceReplicate,reduceCtorEq,allP,e_ck,pK,KS,it_r1,ld14,ce14,in14,q_program_checker_instruction,h,w_2]
set_option maxHeartbeats 4000000 in
theorem x_k2:headOf [1,3,29,30,31] 3 (exec P B0_program_Check ⟨tm (e_ck 2),KS [mI 0,mI 1,mI 2] 3,95,none⟩)=some (.inl (e_ck 3,KS [mI 0,mI 1,mI 2] 3,95,none)):=by
  have h:=x_i3
  simp only [B0_program_Check]
  simp (disch:=omega) only [eqZ,↓gc_len,seval,-List.reduceReplicate,reduceCtorEq,allP,e_ck,pK,KS,it_r2,ld14,ce14,in14,q_program_checker_instruction,h,w_3]
theorem x_lk0:loopAt P L0_program_Check (e_ck 0) (KS [] 3) 95 none=some (.exit 0,⟨upd (tm (e_ck 3)) 32 (.p (.bool false)),KS [mI 0,mI 1,mI 2] 3,95,none⟩):=by
  refine (loop_next rfl x_k0).trans ((loop_next rfl x_k1).trans ((loop_next rfl x_k2).trans (loop_last rfl ?_)))
  simp only [B0_program_Check]
  simp (disch:=omega) only [eqZ,↓gc_len,seval,-List.reduceReplicate,reduceCtorEq,allP,e_ck,pK,KS]
abbrev e_cl (k:Int):List (Nat×AV):=[(1,.p (.ptr prA 0)),(3,pK),(41,.p (.lst [[.int .i64 0]])),(42,.p (.int .i64 1)),(43,.p (.int .i64 k))]
theorem it_0:∀ σ,iadrSV σ 1 (.p (.lst [[.int .i64 0]])) (.p (.int .i64 0))=some (.p (.ptr [.int .i64 0] 0)):=fun σ=>v_iadr (k:=.i64) (es:=1) (σ:=σ) (i:=0) (rows:=[[.int .i64 0]]) rfl rfl
set_option maxHeartbeats 4000000 in
theorem x_lk1:loopAt P L1_program_Check (e_cl 0) (KS [mI 0,mI 1,mI 2] 3) 95 none=some (.exit 2,⟨upd (tm (e_cl 1)) 44 (.p (.bool false)),KS [mI 0,mI 1,mI 2] 3,95,none⟩):=by
  have h:headOf [1,3,41,42,43] 3 (exec P B1_program_Check ⟨tm (e_cl 0),KS [mI 0,mI 1,mI 2] 3,95,none⟩)=some (.inl (e_cl 1,KS [mI 0,mI 1,mI 2] 3,95,none)):=by
    simp only [B1_program_Check]
    simp (disch:=omega) only [eqZ,↓gc_len,seval,-List.reduceReplicate,reduceCtorEq,allP,e_cl,pK,KS,it_0,ncp,q3_0,lk_k,w_1]
  refine (loop_next rfl h).trans (loop_last rfl ?_)
  simp only [B1_program_Check]
  simp (disch:=omega) only [eqZ,↓gc_len,seval,-List.reduceReplicate,reduceCtorEq,allP,e_cl,pK,KS]
theorem bu_k {n:Int}:buildV [.p .nilm,.p .nilm,.p (.int .i64 0)] [(0,1,.map 0),(1,1,.map 1),(2,1,.p (.int .i64 n))]=some (.agg [.map 0,.map 1,.p (.int .i64 n)]):=rfl
theorem ce_k {a b c:AV}:cellsOf 3 true (.agg [a,b,c])=some [a,b,c]:=rfl
theorem al_k {n:Int}:allocV 3 (eagers [.map 0,.map 1,.p (.int .i64 n)] [.map [] false,.map [] false])=some (pK,KS [] n):=rfl
theorem ce5 {a b c d e:PV}:cellsOf 5 true (.p (.agg [a,b,c,d,e]))=some [.p a,.p b,.p c,.p d,.p e]:=rfl
theorem in5 {a b c d e:PV} {n:Nat}:initV σ n true (some [.p a,.p b,.p c,.p d,.p e])=some (.p (.ptr [a,b,c,d,e] 0),σ):=rfl
theorem pm_0:purify (KS [mI 0,mI 1,mI 2] 3) 12 (.map 0)=some (.pmap mP):=rfl
theorem pm_1:purify (KS [mI 0,mI 1,mI 2] 3) 12 (.map 1)=some (.pmap []):=rfl
set_option maxHeartbeats 8000000 in
theorem x_ckA:R P f_program_Check [.agg prA]=some (.int .i64 0):=by
  have h0:=x_lk0
  have h1:=x_lk1
  have s0:=x_slots
  have s1:=x_slots0 (es:=[])
  simp only [e_ck,KS,pK,prA] at h0
  simp only [e_cl,KS,pK,prA] at h1
  (rw [r_program_Check (lbY rfl),F_program_Check];simp (disch:=omega) only [eqZ,↓gc_len,seval,-List.reduceReplicate,reduceCtorEq,allP,prA,ce5,in5,bu_k,ce_k,al_k,pK,KS,k0_program_Check,h0,k1_program_Check,h1,ncp,q3_0,q3_1,q_program_slots,pm_0,pm_1,s0,s1,w_1])
abbrev RB:List PV:=rowP 3 0 0 0 0 0 (bs [])
abbrev prB:List PV:=[.lst [RB],.int .i64 1,.lst [[.int .i64 0]],.lst [],.lst []]
theorem lk_n {n:Int}:lookupV (KS [] n) .int (.p (.bool false)) (.map 0) (.p (.int .i64 0)) false=some (.p (.bool false)):=rfl
set_option maxHeartbeats 4000000 in
theorem x_ib:call P F_program_checker_instruction [pK,.p (.agg RB)] (KS [] 1)=some (.p (.bool false),KS [] 1):=by
  (rw [call_go (lbY rfl),F_program_checker_instruction];simp (disch:=omega) only [eqZ,↓gc_len,seval,-List.reduceReplicate,reduceCtorEq,allP,pK,KS,RB,rowP,ce14,in14,ld14,ncp,q3_0,lk_n])
abbrev e_cb0:List (Nat×AV):=[(1,.p (.ptr prB 0)),(3,pK),(29,.p (.lst [RB])),(30,.p (.int .i64 1)),(31,.p (.int .i64 0))]
theorem it_b:∀ σ,iadrSV σ 14 (.p (.lst [RB])) (.p (.int .i64 0))=some (.p (.ptr RB 0)):=fun σ=>v_iadr (k:=.i64) (es:=14) (σ:=σ) (i:=0) (rows:=[RB]) rfl rfl
set_option maxHeartbeats 4000000 in
theorem x_lb:∃ r,loopAt P L0_program_Check e_cb0 (KS [] 1) 95 none=some r∧ret1 2 (.int .i64 19) (KS [] 1) r:=by
  have h:=x_ib
  have key:∃ x,headOf [1,3,29,30,31] 3 (exec P B0_program_Check ⟨tm e_cb0,KS [] 1,95,none⟩)=some (.inr x)∧ret1 2 (.int .i64 19) (KS [] 1) x:=by
    refine ⟨?_,?_,?_⟩
    rotate_left
    · simp only [B0_program_Check]
      simp (disch:=omega) only [eqZ,↓gc_len,seval,-List.reduceReplicate,reduceCtorEq,allP,e_cb0,pK,KS,it_b,ld14,ce14,in14,q_program_checker_instruction,h]
      rfl
    · exact ⟨rfl,rfl,rfl⟩
  obtain ⟨x,hx,hr⟩:=key
  exact ⟨x,loop_last rfl hx,hr⟩
set_option maxHeartbeats 8000000 in
theorem x_ckB:R P f_program_Check [.agg prB]=some (.int .i64 19):=by
  obtain ⟨⟨e',τ',σ',nt',rd'⟩,h0,h2,h3,h4⟩:=x_lb
  simp only at h2 h3 h4
  subst h2
  simp only [e_cb0,KS,pK,prB] at h0
  (rw [r_program_Check (lbY rfl),F_program_Check];simp (disch:=omega) only [eqZ,↓gc_len,seval,-List.reduceReplicate,reduceCtorEq,allP,prB,ce5,in5,bu_k,ce_k,al_k,pK,KS,k0_program_Check,h0,h3])
theorem bl_2h:bsliceV [] 5 2 (fillP (List.replicate 2 [.p (.int .i64 0),.p (.int .i64 0),.p (.int .u64 0),.p (.str (bs [])),.nils]).flatten [(0,5,.p (.agg hA.row)),(5,5,.p (.agg hA.row))])=some (.sl 0 2,[.pv 5 [hA.row,hA.row] false]):=rfl
theorem bu_t:buildV [.p (.int .i64 0),.p (.int .i64 0),.p (.int .u64 0),.p (.str (bs [])),.nils] [(0,1,.p (.int .i64 8)),(1,1,.p (.int .i64 8)),(4,1,.sl 0 2)]=some (.agg [.p (.int .i64 8),.p (.int .i64 8),.p (.int .u64 0),.p (.str (bs [])),.sl 0 2]):=rfl
theorem bu_a:buildV [.p (.str (bs [])),.p (.int .i64 0),.p (.int .i64 0),.p (.int .u64 0),.p (.str (bs [])),.nils] [(1,5,.agg [.p (.int .i64 8),.p (.int .i64 8),.p (.int .u64 0),.p (.str (bs [])),.sl 0 2])]=some (.agg [.p (.str (bs [])),.p (.int .i64 8),.p (.int .i64 8),.p (.int .u64 0),.p (.str (bs [])),.sl 0 2]):=rfl
theorem bl_a {o:Obj}:bsliceV [o] 6 1 (fillP (List.replicate 1 [.p (.str (bs [])),.p (.int .i64 0),.p (.int .i64 0),.p (.int .u64 0),.p (.str (bs [])),.nils]).flatten [(0,6,.agg [.p (.str (bs [])),.p (.int .i64 8),.p (.int .i64 8),.p (.int .u64 0),.p (.str (bs [])),.sl 0 2])])=some (.sl 1 1,[o,.av 6 [[.p (.str (bs [])),.p (.int .i64 8),.p (.int .i64 8),.p (.int .u64 0),.p (.str (bs [])),.sl 0 2]] false]):=rfl
theorem pu_t:purify [.pv 5 [hA.row,hA.row] false,.av 6 [[.p (.str (bs [])),.p (.int .i64 8),.p (.int .i64 8),.p (.int .u64 0),.p (.str (bs [])),.sl 0 2]] false] 12 (.sl 1 1)=some (.lst [aA.row]):=rfl
set_option maxHeartbeats 4000000 in
theorem x_twice:R P f_law25_twice []=some (.lst [aA.row]):=by
  have h:=x_hole
  (rw [r_law25_twice (lbY rfl),F_law25_twice];simp (disch:=omega) only [eqZ,↓gc_len,seval,-List.reduceReplicate,reduceCtorEq,allP,q_law25_hole,h,bl_2h,bu_t,bu_a,bl_a,pu_t])
theorem st_z:storeV [oE,oE,oE,oE,.av 5 [[.sl 0 0,.p (.int .i64 0),.sl 1 0,.sl 2 0,.sl 3 0]] false] 5 (.ptr 4 1 0 0) (mkAgg [.nils,.p (.int .i64 0),.nils,.nils,.nils])=some [oE,oE,oE,oE,.av 5 [[.sl 5 0,.p (.int .i64 0),.sl 6 0,.sl 7 0,.sl 8 0]] false,oE,oE,oE,oE]:=rfl
abbrev agZ:AV:=mkAgg [.sl 5 0,.p (.int .i64 0),.sl 6 0,.sl 7 0,.sl 8 0]
theorem pu_z:purify [oE,oE,oE,oE,.av 5 [[.sl 5 0,.p (.int .i64 0),.sl 6 0,.sl 7 0,.sl 8 0]] false,oE,oE,oE,oE] 12 (match allP [agZ,.p (.int .i64 7)] with | some ps=>.p (.tup ps) | none=>.tup [agZ,.p (.int .i64 7)])=some (.tup [.agg [.lst [],.int .i64 0,.lst [],.lst [],.lst []],.int .i64 7]):=rfl
theorem x_Compile0:R P f_program_Compile [.lst []]=some (.tup [.agg [.lst [],.int .i64 0,.lst [],.lst [],.lst []],.int .i64 7]):=by
  have h:=x_chk0
  (rw [r_program_Compile (lbY rfl),F_program_Compile];simp (disch:=omega) only [eqZ,↓gc_len,seval,-List.reduceReplicate,reduceCtorEq,allP,al_c,q_program_CheckAtoms,h,st_z])
  exact pu_z
theorem fz_0:freezeAll [] (refs [] 12 .nils)=[]:=rfl
theorem ge0 {c:Prop} [Decidable c]:(if c then ([]:Store) else [])=[]:=by split<;>rfl
theorem bu_2 {a b:Int} {z0 z1:AV}:buildV [z0,z1,.p (.int .u64 0),.p (.str (bs [])),.nils] [(0,1,.p (.int .i64 a)),(1,1,.p (.int .i64 b))]=some (.agg [.p (.int .i64 a),.p (.int .i64 b),.p (.int .u64 0),.p (.str (bs [])),.nils]):=rfl
theorem in5n {a b c d:PV} {n:Nat}:initV σ n true (some [.p a,.p b,.p c,.p d,.nils])=some (.ptr σ.length 1 0 0,σ++[.av n [[.p a,.p b,.p c,.p d,.nils]] false]):=rfl
theorem bu_s1 {k:Int}:buildV z14 [(0,1,.p (.int .i64 k))]=some (.agg (insA k 0 0 0 0 0 (bs []))):=rfl
theorem bu_s2 {q0 q1 q2:Int} {q3:ByteArray} {k b:Int}:buildV z14 [(0,1,.p (.int .i64 k)),(2,1,.p (.int .i64 b)),(3,5,.agg [.p (.int .i64 q0),.p (.int .i64 q1),.p (.int .u64 q2),.p (.str q3),.nils])]=some (.agg (insA k 0 b q0 q1 q2 q3)):=rfl
theorem bl_m {o:Obj}:bsliceV [o] 14 3 (fillP (List.replicate 3 z14).flatten [(0,14,.agg I1),(14,14,.agg I2),(28,14,.agg I3)])=some (.sl 1 3,[o,.av 14 [I1,I2,I3] false]):=rfl
theorem bl_i1 {n:Int} {z:AV}:bsliceV σ 1 1 (fillP (List.replicate 1 [z]).flatten [(0,1,.p (.int .i64 n))])=some (.sl σ.length 1,σ++[.pv 1 [[.int .i64 n]] false]):=rfl
theorem bu_p {a b c n:Nat} {z:AV} {x:Int} {d e:Nat}:buildV [.nils,z,.nils,.nils,.nils] [(0,1,.sl a n),(1,1,.p (.int .i64 x)),(2,1,.sl b c),(3,1,.sl d e)]=some (.agg [.sl a n,.p (.int .i64 x),.sl b c,.sl d e,.nils]):=rfl
theorem bu_p2 {a b c n:Nat} {z:AV} {x:Int}:buildV [.nils,z,.nils,.nils,.nils] [(0,1,.sl a n),(1,1,.p (.int .i64 x)),(2,1,.sl b c)]=some (.agg [.sl a n,.p (.int .i64 x),.sl b c,.nils,.nils]):=rfl
theorem ce5a {a b c d e:AV}:cellsOf 5 true (.agg [a,b,c,d,e])=some [a,b,c,d,e]:=rfl
theorem in5p {a n b c d e:Nat} {q:PV} {m:Nat}:initV σ m true (some [.sl a n,.p q,.sl b c,.sl d e,.nils])=some (.ptr σ.length 1 0 0,σ++[.av m [[.sl a n,.p q,.sl b c,.sl d e,.nils]] false]):=rfl
theorem in5b {a n b c:Nat} {q:PV} {m:Nat}:initV σ m true (some [.sl a n,.p q,.sl b c,.nils,.nils])=some (.ptr σ.length 1 0 0,σ++[.av m [[.sl a n,.p q,.sl b c,.nils,.nils]] false]):=rfl
theorem mkAgg_q {a n b c d e:Nat} {q:PV}:mkAgg [.sl a n,.p q,.sl b c,.sl d e,.nils]=.agg [.sl a n,.p q,.sl b c,.sl d e,.nils]:=rfl
theorem mkAgg_q2 {a n b c:Nat} {q:PV}:mkAgg [.sl a n,.p q,.sl b c,.nils,.nils]=.agg [.sl a n,.p q,.sl b c,.nils,.nils]:=rfl
abbrev SF:Store:=[.av 5 [[.p (.int .i64 8),.p (.int .i64 8),.p (.int .u64 0),.p (.str (bs [])),.nils]] false,.av 14 [I1,I2,I3] false,.pv 1 [[.int .i64 0]] false,.pv 2 [[.str (bs [97]),.int .i64 1]] false,.av 5 [[.sl 1 3,.p (.int .i64 3),.sl 2 1,.sl 3 1,.nils]] false,.av 14 [insA 3 0 0 0 0 0 (bs [])] false,.pv 1 [[.int .i64 0]] false,.av 5 [[.sl 5 1,.p (.int .i64 1),.sl 6 1,.nils,.nils]] false]
theorem pu_q:purify SF 11 (.sl 1 3)=some (.lst [R1,R2,RI3]):=rfl
theorem pu_q2:purify SF 11 (.sl 5 1)=some (.lst [RB]):=rfl
theorem pu_q3:purify SF 11 (.sl 6 1)=some (.lst [[.int .i64 0]]):=rfl
theorem eq_v:eqAV false [.str,.int] (.p (.agg [.str (bs [97]),.int .i64 8])) (.p (.agg [.str (bs [97]),.int .i64 8]))=some (.p (.bool true)):=by
  simp [eqAV,eqCells,eq_str,eqLeaf]
set_option maxHeartbeats 8000000 in
theorem s_l25:R P f_law25_lives []=some (.bool true):=by
  have h1:=x_twice
  have h2:=x_Compile
  have h3:=x_Compile0
  have h4:=x_names
  have h5:=x_ckA
  have h6:=x_ckB
  have h7:=x_chk
  (rw [r_law25_lives (lbY rfl),F_law25_lives];simp (disch:=omega) only [eqZ,↓gc_len,seval,-List.reduceReplicate,reduceCtorEq,allP,q_law25_twice,h1,q_program_Compile,h2,h3,q_program_Names,h4,ce5,in5,prA,fz_0,ge0,bu_2,in5n,bu_s1,bu_s2,bu_i,bl_m,bl_i1,bu_p,bu_p2,ce5a,in5p,in5b,bs_i,mkAgg_q,mkAgg_q2,q_program_Check,pu_q,pu_q2,pu_q3,prB,h5,h6,q_program_CheckAtoms,h7,it_v,ld2,eq_v])
end Go.AE.S
