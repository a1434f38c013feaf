import Derived.Test.YtiinicliedpmjaaGreatE5
namespace Go.AE.S
open Go Go.AE
set_option linter.unusedSimpArgs false
set_option linter.unusedVariables false
variable {τ:Tm} {σ:Store} {rd:Option Nat}
def twoT (o w:Int) (a b:Term):Term:=.mk o w 0 (bs []) [a,b]
theorem bld_5s {o w:Int}:buildV [.p (.int .i64 0),.p (.int .i64 0),.p (.int .u64 0),.p (.str (bs [])),.nils] [(0,1,.p (.int .i64 o)),(1,1,.p (.int .i64 w)),(4,1,.sl 2 2)]=some (.agg [.p (.int .i64 o),.p (.int .i64 w),.p (.int .u64 0),.p (.str (bs [])),.sl 2 2]):=rfl
theorem st_5s {o w:Int} {o0 o2:Obj} {r:List AV} (h:r.length=5):storeV [o0,.av 5 [r] false,o2] 5 (.ptr 1 1 0 0) (.agg [.p (.int .i64 o),.p (.int .i64 w),.p (.int .u64 0),.p (.str (bs [])),.sl 2 2])=some [o0,.av 5 [[.p (.int .i64 o),.p (.int .i64 w),.p (.int .u64 0),.p (.str (bs [])),.sl 2 2]] false,o2]:=by
  match r,h with
  | [_,_,_,_,_],_=>rfl
theorem row_two {o w:Int} {a b:Term}:(twoT o w a b).row=[.int .i64 o,.int .i64 w,.int .u64 0,.str (bs []),.lst [a.row,b.row]]:=by
  rw [Term.row_eq];rfl
set_option maxHeartbeats 4000000 in
theorem s_law11_two (o w:Int) (a b:Term):R P f_law11_two [.int .i64 o,.int .i64 w,.agg a.row,.agg b.row]=some (.agg (twoT o w a b).row):=by
  have hs:=fun (o0 o2:Obj) (x:AV)=>st_5s (o:=o) (w:=w) (o0:=o0) (o2:=o2) (r:=[.p (.int .i64 0),.p (.int .i64 0),.p (.int .u64 0),.p (.str (bs [])),x]) rfl
  rw [row_two]
  (rw [r_law11_two (lbY rfl),F_law11_two];simp (disch:=omega) only [eqZ,↓gc_len,seval,-List.reduceReplicate,reduceCtorEq,allP,bsl_2t,bld_5s,hs])
theorem flat_w {o w:Int} {a b:Term}:PV.flat (.agg (twoT o w a b).row)=false:=by rw [row_two];simp [PV.flat]
theorem refs_0w {j n es:Nat} {rows:List (List PV)} {fr:Bool} {r:Store}:refs (.pv es rows fr :: r) (j+1) (.sl 0 n)=[0]:=rfl
theorem bld_k {o w v:Int}:buildV [.p (.int .i64 0),.p (.int .i64 0),.p (.int .u64 0),.p (.str (bs [])),.nils] [(0,1,.p (.int .i64 o)),(1,1,.p (.int .i64 w)),(2,1,.p (.int .u64 v))]=some (.agg [.p (.int .i64 o),.p (.int .i64 w),.p (.int .u64 v),.p (.str (bs [])),.nils]):=rfl
theorem flat_e {b:Bool} {e:Int}:PV.flat (.tup [.bool b,.lst [],.int .i64 e])=true:=by simp [PV.flat]
theorem flat_c {b:Bool} {r:List PV} {l:List (List PV)} {e:Int}:PV.flat (.tup [.bool b,.lst (r :: l),.int .i64 e])=false:=by simp [PV.flat]
theorem flat_n {b e:Int}:PV.flat (.tup [.int .i64 b,.int .i64 e])=true:=by simp [PV.flat]
theorem st_w2 {o0:Obj} {a b c d:PV} {n:Int}:stO [o0,.av 5 [[.p a,.p b,.p c,.p d,.sl 0 0]] false] 1 1 0 1 [.p (.int .i64 n)] (some (.av 5 [[.p a,.p b,.p c,.p d,.sl 0 0]] false))=some [o0,.av 5 [[.p a,.p (.int .i64 n),.p c,.p d,.sl 0 0]] false]:=rfl
theorem pur_5w (k:Nat) {o0 o1 o2 o3 o4:Obj} {a:List PV} {fr:Bool}:purify [o0,o1,o2,o3,o4,.pv 5 [a] fr] (k+1) (.sl 5 1)=some (.lst [a]):=rfl
theorem ia_0 {s:ByteArray} {n:Int}:iadrSV σ 2 (.p (.lst [[.str s,.int .u64 n]])) (.p (.int .i64 0))=some (.p (.ptr [.str s,.int .u64 n] 0)):=v_iadr (k:=.i64) (es:=2) (i:=0) rfl rfl
theorem ld_b2 {s:ByteArray} {n:Int}:loadV σ 2 true (.p (.ptr [.str s,.int .u64 n] 0))=some (.p (.agg [.str s,.int .u64 n])):=rfl
theorem eq_b2 {s:ByteArray} {n:Int}:eqAV false [.str,.int] (.p (.agg [.str s,.int .u64 n])) (.p (.agg [.str s,.int .u64 n]))=some (.p (.bool true)):=by
  simp [eqAV,eqCells,eqLeaf]
theorem bu_b0 {s:ByteArray}:buildV [.p (.str (bs [])),.p (.int .u64 0)] [(0,1,.p (.str s))]=some (.p (.agg [.str s,.int .u64 0])):=rfl
theorem bu_b1 {s:ByteArray} {n:Int}:buildV [.p (.str (bs [])),.p (.int .u64 0)] [(0,1,.p (.str s)),(1,1,.p (.int .u64 n))]=some (.p (.agg [.str s,.int .u64 n])):=rfl
def q4:Term:=.mk 1 4 0 (bs [120]) []
def q2:Term:=.mk 1 2 0 (bs [120]) []
def k4:Term:=.mk 2 4 1 (bs []) []
def k2:Term:=.mk 2 2 1 (bs []) []
def dA:Term:=twoT 8 4 q4 q4
def dB:Term:=twoT 13 4 q4 k4
def dL:Term:=twoT 9 2 q2 k2
def dT:Term:=twoT 7 2 q2 k2
def dD:Term:=twoT 5 2 q2 k2
def dO:Term:=twoT 16 1 dD k2
theorem tok_q4:TOk q4:=tok_leaf (by decide) (by decide) ⟨by decide,by decide⟩ (by decide)
theorem tok_q2:TOk q2:=tok_leaf (by decide) (by decide) ⟨by decide,by decide⟩ (by decide)
theorem tok_k4:TOk k4:=tok_leaf (by decide) (by decide) ⟨by decide,by decide⟩ (by decide)
theorem tok_k2:TOk k2:=tok_leaf (by decide) (by decide) ⟨by decide,by decide⟩ (by decide)
theorem tok_w {o w:Int} {a b:Term} (ho : -9223372036854775808≤o∧o≤9223372036854775807) (hw : -9223372036854775808≤w∧w≤9223372036854775807) (ha:TOk a) (hb:TOk b):TOk (twoT o w a b):=.mk _ ho hw ⟨by show (0:Int)≤0;omega,by show (0:Int)≤_;omega⟩ (by show (bs []).size≤_;decide) (by show 2≤_;omega) (by
  intro c hc
  rcases List.mem_cons.1 hc with rfl | hc
  · exact ha
  · rw [List.mem_singleton.1 hc];exact hb)
theorem tok_dA:TOk dA∧dA.count≤10000:=⟨tok_w (by decide) (by decide) tok_q4 tok_q4,by decide⟩
theorem tok_dB:TOk dB∧dB.count≤10000:=⟨tok_w (by decide) (by decide) tok_q4 tok_k4,by decide⟩
theorem tok_dL:TOk dL∧dL.count≤10000:=⟨tok_w (by decide) (by decide) tok_q2 tok_k2,by decide⟩
theorem tok_dT:TOk dT∧dT.count≤10000:=⟨tok_w (by decide) (by decide) tok_q2 tok_k2,by decide⟩
theorem tok_dD:TOk dD:=tok_w (by decide) (by decide) tok_q2 tok_k2
theorem tok_dO:TOk dO∧dO.count≤10000:=⟨tok_w (by decide) (by decide) tok_dD tok_k2,by decide⟩
theorem x_e1:R P f_exhaust_Equal [.agg dA.row,.agg dB.row]=some (.tup [.bool true,.lst [],.int .i64 0]):=by
  have h:=s_exhaust_Equal dA dB tok_dA tok_dB
  rw [show valB [] dA dB=true by decide +kernel,show valA [] dA dB=[] by decide +kernel,show valE [] dA dB=0 by decide +kernel] at h
  exact h
instance:DecidableEq V2:=fun a b=>decidable_of_iff (a.name=b.name∧a.w=b.w) ⟨fun h=>v2_ext h.1 h.2,fun h=>by subst h;exact ⟨rfl,rfl⟩⟩
theorem x_e2:R P f_exhaust_Equal [.agg dL.row,.agg dT.row]=some (.tup [.bool false,.lst [[.str (bs [120]),.int .u64 0]],.int .i64 0]):=by
  have h:=s_exhaust_Equal dL dT tok_dL tok_dT
  rw [show valB [] dL dT=false by decide +kernel,show valE [] dL dT=0 by decide +kernel] at h
  have hX:valX [] dL dT=some 0:=by decide +kernel
  have hV:varsX (eqW [] dL dT)=[⟨bs [120],2⟩]:=by decide +kernel
  have hA:valA [] dL dT=[⟨bs [120],0⟩]:=by
    unfold valA
    rw [hX,hV]
    rfl
  rw [hA] at h
  exact h
theorem x_v1:R P f_exhaust_Valid [.lst [dO.row],.agg dL.row,.agg dT.row]=some (.tup [.bool true,.lst [],.int .i64 0]):=by
  have h:=s_exhaust_Valid [dO] dL dT (fun t ht=>by
    have ht':t∈[dO,dL,dT]:=ht
    rcases List.mem_cons.1 ht' with rfl | ht'
    · exact tok_dO
    rcases List.mem_cons.1 ht' with rfl | ht'
    · exact tok_dL
    · rw [List.mem_singleton.1 ht'];exact tok_dT) (by decide)
  rw [show valB [dO] dL dT=true by decide +kernel,show valE [dO] dL dT=0 by decide +kernel] at h
  have hA:valA [dO] dL dT=[]:=by
    unfold valA
    rw [show valX [dO] dL dT=none by decide +kernel]
  rw [hA] at h
  exact h
theorem x_c1:R P f_exhaust_Count [.agg dO.row]=some (.tup [.int .i64 2,.int .i64 0]):=by
  have h:=s_exhaust_Count dO tok_dO
  rw [show cntX dO=2 by decide +kernel,show conE dO=0 by decide +kernel] at h
  exact h
theorem x_s1:R P f_exhaust_Sat [.agg dO.row]=some (.tup [.bool true,.lst [[.str (bs [120]),.int .u64 1]],.int .i64 0]):=by
  have h:=s_exhaust_Sat dO tok_dO
  have hX:satX dO=some 1:=by decide +kernel
  have hV:varsX [dO]=[⟨bs [120],2⟩]:=by decide +kernel
  have hA:satA dO=[⟨bs [120],1⟩]:=by
    unfold satA
    rw [hX,hV]
    rfl
  rw [hX,hA,show conE dO=0 by decide +kernel] at h
  exact h
theorem q4_row:q4.row=[.int .i64 1,.int .i64 4,.int .u64 0,.str (bs [120]),.lst []]:=rfl
theorem q2_row:q2.row=[.int .i64 1,.int .i64 2,.int .u64 0,.str (bs [120]),.lst []]:=rfl
theorem k4_row:k4.row=[.int .i64 2,.int .i64 4,.int .u64 1,.str (bs []),.lst []]:=rfl
theorem k2_row:k2.row=[.int .i64 2,.int .i64 2,.int .u64 1,.str (bs []),.lst []]:=rfl
set_option maxHeartbeats 8000000 in
theorem s_law11_live:R P f_law11_live []=some (.bool true):=by
  have t1:R P f_law11_two [.int .i64 8,.int .i64 4,.agg q4.row,.agg q4.row]=some (.agg dA.row):=s_law11_two 8 4 q4 q4
  have t2:R P f_law11_two [.int .i64 13,.int .i64 4,.agg q4.row,.agg k4.row]=some (.agg dB.row):=s_law11_two 13 4 q4 k4
  have t3:R P f_law11_two [.int .i64 9,.int .i64 2,.agg q2.row,.agg k2.row]=some (.agg dL.row):=s_law11_two 9 2 q2 k2
  have t4:R P f_law11_two [.int .i64 7,.int .i64 2,.agg q2.row,.agg k2.row]=some (.agg dT.row):=s_law11_two 7 2 q2 k2
  have t5:R P f_law11_two [.int .i64 5,.int .i64 2,.agg q2.row,.agg k2.row]=some (.agg dD.row):=s_law11_two 5 2 q2 k2
  have t6:R P f_law11_two [.int .i64 16,.int .i64 1,.agg dD.row,.agg k2.row]=some (.agg dO.row):=s_law11_two 16 1 dD k2
  rw [q4_row] at t1 t2
  rw [k4_row] at t2
  rw [q2_row,k2_row] at t3 t4 t5
  rw [k2_row] at t6
  have fA:PV.flat (.agg dA.row)=false:=flat_w
  have fB:PV.flat (.agg dB.row)=false:=flat_w
  have fL:PV.flat (.agg dL.row)=false:=flat_w
  have fT:PV.flat (.agg dT.row)=false:=flat_w
  have fD:PV.flat (.agg dD.row)=false:=flat_w
  have fO:PV.flat (.agg dO.row)=false:=flat_w
  have e1:=x_e1
  have e2:=x_e2
  have v1:=x_v1
  have c1:=x_c1
  have s1:=x_s1
  generalize dA=tA at *
  generalize dB=tB at *
  generalize dL=tL at *
  generalize dT=tT at *
  generalize dD=tD at *
  generalize dO=tO at *
  (rw [r_law11_live (lbY rfl),F_law11_live];simp (disch:=omega) only [eqZ,↓gc_len,seval,-List.reduceReplicate,reduceCtorEq,allP,q_law11_two,t1,t2,t3,t4,t5,t6,q_exhaust_Equal,e1,e2,q_exhaust_Valid,v1,q_exhaust_Count,c1,q_exhaust_Sat,s1,fA,fB,fL,fT,fD,fO,frz_go,frzO,refs_0w,bld_k,flat_e,flat_c,flat_n,refs_nils,st_w2,ini_5t,bsl_1t,pur_5w,ia_0,ld_b2,eq_b2,bu_b0,bu_b1])
theorem small_few {l:List Term} (h:smallB l=true):(∀ t∈l,t.deep≤66∧t.count≤40)∧l.length≤6:=by
  unfold smallB at h
  rw [Bool.and_eq_true] at h
  exact few_all h.1
theorem s_small2 (a b:Term) (ha:TOk a) (hb:TOk b):R P f_r11_Small [.lst [a.row,b.row]]=some (.bool (smallB [a,b])) :=
  s_r11_Small [a,b] (fun t h=>by rcases List.mem_cons.1 h with rfl | h;exact ha;rw [List.mem_singleton.1 h];exact hb) (by simp)
theorem small_2 {a b:Term} (ha:TOk a) (hb:TOk b) (h:smallB [a,b]=true):(TOk a∧a.count≤10000)∧(TOk b∧b.count≤10000):=by
  have h1:=(small_few h).1
  exact ⟨⟨ha,by have:=(h1 a (by simp)).2;omega⟩,⟨hb,by have:=(h1 b (by simp)).2;omega⟩⟩
theorem pur_v2 (k:Nat) {a b:List PV} {f:Bool}:purify [.pv 5 [a,b] f] (k+1) (.sl 0 2)=some (.lst [a,b]):=rfl
set_option maxHeartbeats 16000000 in
theorem p_ExhaustWitness (a:Term) (ha:TOk a) (b:Term) (hb:TOk b) (l:List Bd) (hl:∀ x∈l,W x.v) (hln:l.length≤9223372036854775807):R P f_law11_ExhaustWitness [.agg a.row,.agg b.row,.lst (l.map brow)]=some (.bool true):=by
  have hf:=s_small2 a b ha hb
  have hv:=s_law11_live
  cases hq:smallB [a,b] with
  | false=>
    rw [hq] at hf
    (rw [r_law11_ExhaustWitness (lbY rfl),F_law11_ExhaustWitness];simp (disch:=omega) only [eqZ,↓gc_len,seval,-List.reduceReplicate,reduceCtorEq,allP,bsl_2t,pur_v2,q_r11_Small,hf,q_law11_live,hv])
  | true=>
    rw [hq] at hf
    obtain ⟨h1,h2⟩:=small_2 ha hb hq
    have hca:=((small_few hq).1 a (by simp)).2
    have hcb:=((small_few hq).1 b (by simp)).2
    have hE:=s_exhaust_Equal a b h1 h2
    rcases Classical.propComplete (valE [] a b=0) with c0 | c0
    rotate_left
    · have c0':=of_eq_false c0
      have hX:valX [] a b=none:=by unfold valX;rw [if_neg c0']
      have hB:valB [] a b=false:=by unfold valB;rw [decide_eq_false c0'];rfl
      have hA:valA [] a b=[]:=by unfold valA;rw [hX]
      rw [hB,hA] at hE
      generalize valE [] a b=ee at *
      (rw [r_law11_ExhaustWitness (lbY rfl),F_law11_ExhaustWitness];simp (disch:=omega) only [eqZ,↓gc_len,seval,-List.reduceReplicate,reduceCtorEq,allP,bsl_2t,pur_v2,q_r11_Small,hf,q_law11_live,hv,q_exhaust_Equal,hE,c0])
    have e0:=of_eq_true c0
    have hg:Good [a,b]:=(valE_iff.1 e0).1
    rw [e0] at hE
    cases hX:valX [] a b with
    | none=>
      have hB:valB [] a b=true:=by rw [valB_none e0,hX];rfl
      have hA:valA [] a b=[]:=by unfold valA;rw [hX]
      have heq:=(eq_of e0).1 hB (envB l)
      rw [hB,hA] at hE
      have ea:=r_Eval l hl hln a ha (by omega)
      have eb:=r_Eval l hl hln b hb (by omega)
      unfold evalP at ea eb
      rw [if_pos (chkL_zero hg.chk a (by simp))] at ea
      rw [if_pos (chkL_zero hg.chk b (by simp)),← heq] at eb
      generalize a.valT (envB l)=xx at *
      cases hba:boundB l a with
      | false=>
        rw [hba,if_neg (by simp)] at ea
        cases hbb:boundB l b with
        | false=>
          rw [hbb,if_neg (by simp)] at eb
          (rw [r_law11_ExhaustWitness (lbY rfl),F_law11_ExhaustWitness];simp (disch:=omega) only [eqZ,↓gc_len,seval,-List.reduceReplicate,reduceCtorEq,allP,bsl_2t,pur_v2,q_r11_Small,hf,q_law11_live,hv,q_exhaust_Equal,hE,q_r08_Eval,ea,eb])
        | true=>
          rw [hbb,if_pos rfl] at eb
          (rw [r_law11_ExhaustWitness (lbY rfl),F_law11_ExhaustWitness];simp (disch:=omega) only [eqZ,↓gc_len,seval,-List.reduceReplicate,reduceCtorEq,allP,bsl_2t,pur_v2,q_r11_Small,hf,q_law11_live,hv,q_exhaust_Equal,hE,q_r08_Eval,ea,eb])
      | true=>
        rw [hba,if_pos rfl] at ea
        cases hbb:boundB l b with
        | false=>
          rw [hbb,if_neg (by simp)] at eb
          (rw [r_law11_ExhaustWitness (lbY rfl),F_law11_ExhaustWitness];simp (disch:=omega) only [eqZ,↓gc_len,seval,-List.reduceReplicate,reduceCtorEq,allP,bsl_2t,pur_v2,q_r11_Small,hf,q_law11_live,hv,q_exhaust_Equal,hE,q_r08_Eval,ea,eb])
        | true=>
          rw [hbb,if_pos rfl] at eb
          (rw [r_law11_ExhaustWitness (lbY rfl),F_law11_ExhaustWitness];simp (disch:=omega) only [eqZ,↓gc_len,seval,-List.reduceReplicate,reduceCtorEq,allP,bsl_2t,pur_v2,q_r11_Small,hf,q_law11_live,hv,q_exhaust_Equal,hE,q_r08_Eval,ea,eb])
    | some k=>
      have hB:valB [] a b=false:=by rw [valB_none e0,hX];rfl
      have hA:valA [] a b=assignT k (varsX [a,b]):=by unfold valA;rw [hX];rfl
      have hne:a.valT (envB (assignT k (varsX [a,b])))≠b.valT (envB (assignT k (varsX [a,b]))):=(valX_some hX).2.2.2
      rw [hB,hA] at hE
      have hal:=assign_len (varsX [a,b]) k
      have hW:=assign_W (varsX [a,b]) k
      have ea:=r_Eval (assignT k (varsX [a,b])) hW (by rw [hal];have:=hg.len;omega) a ha (by omega)
      have eb:=r_Eval (assignT k (varsX [a,b])) hW (by rw [hal];have:=hg.len;omega) b hb (by omega)
      unfold evalP at ea eb
      rw [if_pos (chkL_zero hg.chk a (by simp)),if_pos (bound_assign (hg.bound (by simp)) k)] at ea
      rw [if_pos (chkL_zero hg.chk b (by simp)),if_pos (bound_assign (hg.bound (by simp)) k)] at eb
      have c2:(((a.valT (envB (assignT k (varsX [a,b]))):Nat):Int)=((b.valT (envB (assignT k (varsX [a,b]))):Nat):Int))=False:=by
        simp only [eq_iff_iff,iff_false]
        omega
      generalize assignT k (varsX [a,b])=aa at *
      generalize a.valT (envB aa)=xa at *
      generalize b.valT (envB aa)=xb at *
      (rw [r_law11_ExhaustWitness (lbY rfl),F_law11_ExhaustWitness];simp (disch:=omega) only [eqZ,↓gc_len,seval,-List.reduceReplicate,reduceCtorEq,allP,bsl_2t,pur_v2,q_r11_Small,hf,q_law11_live,hv,q_exhaust_Equal,hE,q_r08_Eval,ea,eb,c2])
end Go.AE.S
