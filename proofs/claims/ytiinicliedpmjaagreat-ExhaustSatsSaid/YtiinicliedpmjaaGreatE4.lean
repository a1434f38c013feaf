import Derived.Test.YtiinicliedpmjaaGreatE3
namespace Go.AE.S
open Go Go.AE
set_option linter.unusedSimpArgs false
set_option linter.unusedVariables false
variable {τ:Tm} {σ:Store} {rd:Option Nat}
def valR (l:List Bd) (t:Term):Nat:=if boundB l t=true then t.valT (envB l) else 0
theorem s_r11_value (l:List Bd) (hl:∀ b∈l,W b.v) (hln:l.length≤1000000) (t:Term) (h1:AllOk t) (h2:TOk t) (h3:t.count≤1000000):R P f_r11_value [.agg t.row,.lst (l.map brow)]=some (.int .u64 (valR l t:Int)):=by
  have h:=r_Value l hl (by omega) t h1 h2 h3
  unfold valR
  unfold valP at h
  split at h<;>rename_i hb
  · simp only [hb,if_true]
    generalize t.valT (envB l)=x at *
    (rw [r_r11_value (lbY rfl),F_r11_value];simp (disch:=omega) only [eqZ,↓gc_len,seval,-List.reduceReplicate,reduceCtorEq,allP,q_r08_Value,h])
  · have hb':boundB l t=false:=by simpa using hb
    simp only [hb',Bool.false_eq_true,if_false]
    (rw [r_r11_value (lbY rfl),F_r11_value];simp (disch:=omega) only [eqZ,↓gc_len,seval,-List.reduceReplicate,reduceCtorEq,allP,q_r08_Value,h])
def isOneR (l:List Bd) (t:Term):Bool:=decide (valR l t=1)
theorem fold_allR {α:Type} (q:α→Bool):∀ (l:List α) (i:Nat),foldE (S:=Unit) (T:=Unit) (fun _ _ a=>if q a=true then .inl () else .inr ()) i () l=if l.all q=true then .inl () else .inr ()
  | [],_=>rfl
  | a :: l,i=>by
    unfold foldE
    cases h:q a with
    | true=>simp only [if_true,List.all_cons,h,Bool.true_and];exact fold_allR q l (i+1)
    | false=>simp [h]
theorem tvX_get {L:List Term} {t:Term} {k:Nat} (hk:k<2^bitsX L):(tvX L t).getD k 0=t.valT (envB (assignT k (varsX L))):=by
  unfold tvX tabV
  rw [List.getD_eq_getElem?_getD,List.getElem?_map,List.getElem?_range hk]
  rfl
theorem valR_X {L:List Term} (hg:Good L) {t:Term} (hm:t∈L) (k:Nat):valR (assignT k (varsX L)) t=t.valT (envB (assignT k (varsX L))):=by
  unfold valR
  rw [bound_assign (hg.bound hm) k,if_pos rfl]
theorem rng_get {n i k:Nat} (h:(List.range n)[i]? = some k):k=i∧i<n:=by
  have h1:=(List.getElem?_eq_some_iff.1 h).1
  rw [List.length_range] at h1
  rw [List.getElem?_range h1] at h
  exact ⟨(Option.some.inj h).symm,h1⟩
theorem u_wrap {n:Nat} (h:n<18446744073709551616):IntKind.u64.wrap (n:Int)=n:=by rw [w64,Nat.mod_eq_of_lt h]
theorem find_congr {p q:Nat→Bool}:∀ {l:List Nat},(∀ k∈l,p k=q k)→l.find? p=l.find? q
  | [],_=>rfl
  | a :: l,h=>by
    rw [List.find?_cons,List.find?_cons,h a (by simp),find_congr fun k hk=>h k (by simp [hk])]
set_option maxHeartbeats 4000000 in
theorem s_r11_Bool (t:Term) (ht:TOk t∧t.count≤10000):R P f_r11_Bool [.agg t.row]=some (.tup [.lst ((conV t).map vrow),.int .i64 (conE t)]):=by
  have hV:=s_r11_Vars [t] (fun u h=>by rw [List.mem_singleton.1 h];exact ht) (by simp)
  simp only [List.map_cons,List.map_nil] at hV
  rcases Classical.propComplete (varsE [t]=0) with c0 | c0
  rotate_left
  · have c0':=of_eq_false c0
    have hE:conE t=varsE [t]:=by unfold conE;rw [if_pos c0']
    have hC:conV t=[]:=by unfold conV;rw [hE,if_neg c0']
    rw [hE,hC]
    generalize varsE [t]=ee at *
    generalize varsR [t]=vv at *
    (rw [r_r11_Bool (lbY rfl),F_r11_Bool];simp (disch:=omega) only [eqZ,↓gc_len,seval,-List.reduceReplicate,reduceCtorEq,allP,bsl_1t,q_r11_Vars,hV,pur_v0,frz_v0,c0])
  · have hR:varsR [t]=varsX [t]:=by unfold varsR;rw [if_pos (of_eq_true c0)]
    rw [of_eq_true c0,hR] at hV
    rcases Classical.propComplete (t.w=1) with c1 | c1
    · have hE:conE t=0:=by unfold conE;rw [if_neg (by simpa using of_eq_true c0),if_pos (of_eq_true c1)]
      have hC:conV t=varsX [t]:=by unfold conV;rw [hE,if_pos rfl]
      rw [hE,hC]
      generalize varsX [t]=vv at *
      (rw [r_r11_Bool (lbY rfl),F_r11_Bool];simp (disch:=omega) only [eqZ,↓gc_len,seval,-List.reduceReplicate,reduceCtorEq,allP,bsl_1t,q_r11_Vars,hV,pur_v0,frz_v0,c1])
    · have hE:conE t=3:=by unfold conE;rw [if_neg (by simpa using of_eq_true c0),if_neg (of_eq_false c1)]
      have hC:conV t=[]:=by unfold conV;rw [hE,if_neg (by decide)]
      rw [hE,hC]
      generalize varsX [t]=vv at *
      (rw [r_r11_Bool (lbY rfl),F_r11_Bool];simp (disch:=omega) only [eqZ,↓gc_len,seval,-List.reduceReplicate,reduceCtorEq,allP,bsl_1t,q_r11_Vars,hV,pur_v0,frz_v0,c1])
abbrev e_sR (t:Term) (vs:List V2) (i:Nat):List (Nat×AV):=[(1,.p (.ptr t.row 0)),(5,.p (.lst (vs.map vrow))),(7,.p (.int .u64 (i:Int)))]
def outSR (vs:List V2) (k:Nat) (r:Ex×St):Prop:=r.1=.ret∧r.2.σ=[]∧r.2.τ.get 2=.p (.bool true)∧r.2.τ.get 3=.p (.lst ((assignT k vs).map brow))∧r.2.τ.get 4=.p (.int .i64 0)
set_option maxHeartbeats 8000000 in
theorem l0_sR (t:Term) (hg:Good [t]) (ht:TOk t∧t.count≤1000000) :
    match (List.range (2^bitsX [t])).find? (fun k=>isOneR (assignT k (varsX [t])) t) with
    | none=>loopAt P L0_r11_Sat (e_sR t (varsX [t]) 0) [] 33 none=back P [1,5,7] B0_r11_Sat 0 (exec P B0_r11_Sat ⟨tm (e_sR t (varsX [t]) (2^bitsX [t])),[],33,none⟩)
    | some k=>∃ r,loopAt P L0_r11_Sat (e_sR t (varsX [t]) 0) [] 33 none=some r∧outSR (varsX [t]) k r:=by
  have hb16:=hg.bits16
  have hp:(2:Nat)^bitsX [t]≤2^16:=Nat.pow_le_pow_right (show 0<2 by omega) hb16
  have hbits:=r_BitsX (varsX [t]) hg.ok (by have:=hg.len;omega)
  rw [hg.bitsV] at hbits
  have hshl:=shl_1 (i:=bitsX [t]) (by omega) (k:=.u64)
  have hwb:=u_wrap (n:=bitsX [t]) (by omega)
  have hh:=loop_to (P:=P) (nt:=33) (lv:=[1,5,7]) (b:=B0_r11_Sat) (rd:=none) (as:=List.range (2^bitsX [t])) (fun i (_:Unit)=>e_sR t (varsX [t]) i) (fun _=>[]) (fun _ _ k=>if isOneR (assignT k (varsX [t])) t=true then .inr k else .inl ()) (outSR (varsX [t])) (fun _ _=>True)
    (fun i k s hv hi _=>by
      refine ⟨fun _ _=>trivial,?_⟩
      obtain ⟨rfl,hi2⟩:=rng_get hv
      have hlt:(((k:Nat):Int)<((2^bitsX [t]:Nat):Int))=True:=by simp only [eq_iff_iff,iff_true];omega
      have hA:=r_Assign (varsX [t]) hg.ok (by have:=hg.len;omega) k (show W k by unfold W;omega)
      have hlW:=assign_W (varsX [t]) k
      have hln:(assignT k (varsX [t])).length≤1000000:=by rw [assign_len];have:=hg.len;omega
      have hva:=s_r11_value _ hlW hln t (check_all (chkL_zero hg.chk t (by simp))) ht.1 ht.2
      have hwr:IntKind.u64.wrap ((k:Int)+1)=((k+1:Nat):Int):=u_wrap (n:=k+1) (by omega)
      unfold isOneR outSR
      generalize hal:assignT k (varsX [t])=l at *
      generalize varsX [t]=vs at *
      generalize bitsX [t]=bb at *
      generalize valR l t=xa at *
      rcases Classical.propComplete (xa=1) with c | c
      · have c2:(((xa:Nat):Int)=1)=True:=by simp [of_eq_true c]
        simp only [decide_eq_true (of_eq_true c),if_true]
        simp only [B0_r11_Sat]
        simp (disch:=omega) only [eqZ,↓gc_len,seval,-List.reduceReplicate,reduceCtorEq,allP,q_r08_Bits,hbits,hwb,hshl,hlt,q_r08_Assign,hA,q_r11_value,hva,c2,hwr,e_sR]
        rw [hal]
      · have c2:(((xa:Nat):Int)=1)=False:=by
          simp only [eq_iff_iff,iff_false]
          have:=of_eq_false c
          omega
        simp only [decide_eq_false (of_eq_false c),Bool.false_eq_true,if_false]
        simp only [B0_r11_Sat]
        simp (disch:=omega) only [eqZ,↓gc_len,seval,-List.reduceReplicate,reduceCtorEq,allP,q_r08_Bits,hbits,hwb,hshl,hlt,q_r08_Assign,hA,q_r11_value,hva,c2,hwr,e_sR]) (fun i s=>rfl) () trivial
  rw [fold_fndN] at hh
  cases hf:(List.range (2^bitsX [t])).find? (fun k=>isOneR (assignT k (varsX [t])) t) with
  | none=>
    rw [hf] at hh
    have h2:=hh.2
    rw [List.length_range] at h2
    exact h2
  | some k=>
    rw [hf] at hh
    exact hh
set_option maxHeartbeats 4000000 in
theorem s_r11_Sat (t:Term) (ht:TOk t∧t.count≤10000):R P f_r11_Sat [.agg t.row]=some (.tup [.bool (satX t).isSome,.lst ((satA t).map brow),.int .i64 (conE t)]):=by
  have hck:=s_r11_Bool t ht
  rcases Classical.propComplete (conE t=0) with c0 | c0
  rotate_left
  · have c0':=of_eq_false c0
    have hX:satX t=none:=by unfold satX;rw [if_neg c0']
    have hA:satA t=[]:=by unfold satA;rw [hX]
    rw [hX,hA]
    generalize conE t=ee at *
    generalize conV t=vv at *
    (rw [r_r11_Sat (lbY rfl),F_r11_Sat];simp (disch:=omega) only [eqZ,↓gc_len,seval,-List.reduceReplicate,reduceCtorEq,allP,q_r11_Bool,hck,c0])
    rfl
  · have hE:=of_eq_true c0
    have hg:=(con_good hE).1
    have hC:conV t=varsX [t]:=by unfold conV;rw [hE,if_pos rfl]
    have h1:=l0_sR t hg ⟨ht.1,by have:=ht.2;omega⟩
    have hb16:=hg.bits16
    have hp:(2:Nat)^bitsX [t]≤2^16:=Nat.pow_le_pow_right (show 0<2 by omega) hb16
    have hbits:=r_BitsX (varsX [t]) hg.ok (by have:=hg.len;omega)
    rw [hg.bitsV] at hbits
    have hshl:=shl_1 (i:=bitsX [t]) (by omega) (k:=.u64)
    have hwb:=u_wrap (n:=bitsX [t]) (by omega)
    have hX:satX t=(List.range (2^bitsX [t])).find? (fun k=>isOneR (assignT k (varsX [t])) t):=by
      unfold satX
      rw [if_pos hE]
      refine find_congr fun k hk=>?_
      unfold isOne isOneR
      rw [tvX_get (List.mem_range.1 hk),valR_X hg (by simp)]
    rw [← hX] at h1
    rw [hC,hE] at hck
    rw [hE]
    unfold satA
    generalize satX t=vX at *
    generalize varsX [t]=vv at *
    generalize bitsX [t]=bb at *
    cases vX with
    | none=>
      simp only [e_sR,Int.natCast_zero] at h1
      have h1':loopAt P L0_r11_Sat [(1,.p (.ptr t.row 0)),(5,.p (.lst (vv.map vrow))),(7,.p (.int .u64 0))] [] 33 none=_:=h1
      (rw [r_r11_Sat (lbY rfl),F_r11_Sat];simp (disch:=omega) only [eqZ,↓gc_len,seval,-List.reduceReplicate,reduceCtorEq,allP,k0_r11_Sat,q_r11_Bool,hck,h1',B0_r11_Sat,q_r08_Bits,hbits,hwb,hshl,Int.lt_irrefl])
      rfl
    | some k=>
      obtain ⟨⟨e',τ',σ',nt',rd'⟩,g1,g2,g3,g4,g5,g6⟩:=h1
      simp only at g2 g3 g4 g5 g6
      subst g2;subst g3
      simp only [e_sR,Int.natCast_zero] at g1
      have h1':loopAt P L0_r11_Sat [(1,.p (.ptr t.row 0)),(5,.p (.lst (vv.map vrow))),(7,.p (.int .u64 0))] [] 33 none=_:=g1
      (rw [r_r11_Sat (lbY rfl),F_r11_Sat];simp (disch:=omega) only [eqZ,↓gc_len,seval,-List.reduceReplicate,reduceCtorEq,allP,k0_r11_Sat,q_r11_Bool,hck,h1',g4,g5,g6])
      rfl
abbrev e_cR (t:Term) (vs:List V2) (s:Int) (i:Nat):List (Nat×AV):=[(1,.p (.ptr t.row 0)),(4,.p (.lst (vs.map vrow))),(6,.p (.int .i64 s)),(7,.p (.int .u64 (i:Int)))]
theorem tvX_len (L:List Term) (t:Term):(tvX L t).length=2^bitsX L:=by simp [tvX,tabV]
theorem conT_X {t:Term} (h:conE t=0):conT t=tvX [t] t:=by unfold conT;rw [if_pos h]
set_option maxHeartbeats 8000000 in
theorem l0_cR (t:Term) (hE:conE t=0) (ht:TOk t∧t.count≤1000000) :
    loopAt P L0_r11_Count (e_cR t (varsX [t]) 0 0) [] 33 none=back P [1,4,6,7] B0_r11_Count 0 (exec P B0_r11_Count ⟨tm (e_cR t (varsX [t]) (cntX t) (2^bitsX [t])),[],33,none⟩):=by
  have hg:=(con_good hE).1
  have hb16:=hg.bits16
  have hp:(2:Nat)^bitsX [t]≤2^16:=Nat.pow_le_pow_right (show 0<2 by omega) hb16
  have hbits:=r_BitsX (varsX [t]) hg.ok (by have:=hg.len;omega)
  rw [hg.bitsV] at hbits
  have hshl:=shl_1 (i:=bitsX [t]) (by omega) (k:=.u64)
  have hwb:=u_wrap (n:=bitsX [t]) (by omega)
  have hle:=con_le ht.1
  rw [conT_X hE] at hle
  obtain ⟨_,h⟩:=loop_run (P:=P) (nt:=33) (lv:=[1,4,6,7]) (b:=B0_r11_Count) (rd:=none) (as:=tvX [t] t) (fun i (s:Int)=>e_cR t (varsX [t]) s i) (fun _=>[]) (fun _ s v=>s+(v:Int)) (fun i s=>0≤s∧s≤i)
    (fun i v s hv hi hs=>by
      obtain ⟨s0,s1⟩:=hs
      have hi2:i<2^bitsX [t]:=by rw [tvX_len] at hi;exact hi
      have hvv:v=valR (assignT i (varsX [t])) t:=by
        rw [valR_X hg (by simp),← tvX_get hi2,List.getD_eq_getElem?_getD,hv]
        rfl
      have hlt:(((i:Nat):Int)<((2^bitsX [t]:Nat):Int))=True:=by simp only [eq_iff_iff,iff_true];omega
      have hA:=r_Assign (varsX [t]) hg.ok (by have:=hg.len;omega) i (show W i by unfold W;omega)
      have hlW:=assign_W (varsX [t]) i
      have hln:(assignT i (varsX [t])).length≤1000000:=by rw [assign_len];have:=hg.len;omega
      have hva:=s_r11_value _ hlW hln t (check_all (chkL_zero hg.chk t (by simp))) ht.1 ht.2
      rw [← hvv] at hva
      have hwr:IntKind.u64.wrap ((i:Int)+1)=((i+1:Nat):Int):=u_wrap (n:=i+1) (by omega)
      have hv1:=hle v (List.mem_of_getElem? hv)
      have hwv:IntKind.i64.wrap (v:Int)=v:=IntWalk.i64_in _ (by omega)
      have hws:IntKind.i64.wrap (s+(v:Int))=s+(v:Int):=IntWalk.i64_in _ (by omega)
      refine ⟨⟨by omega,by omega⟩,?_⟩
      generalize assignT i (varsX [t])=l at *
      generalize varsX [t]=vs at *
      generalize bitsX [t]=bb at *
      simp only [B0_r11_Count]
      simp (disch:=omega) only [eqZ,↓gc_len,seval,-List.reduceReplicate,reduceCtorEq,allP,q_r08_Bits,hbits,hwb,hshl,hlt,q_r08_Assign,hA,q_r11_value,hva,hwv,hws,hwr,e_cR]) (fun i s=>rfl) 0 ⟨by omega,by omega⟩ _ (fold_smX _ 0 0)
  rw [tvX_len] at h
  unfold cntX
  rw [conT_X hE]
  exact h
set_option maxHeartbeats 4000000 in
theorem s_r11_Count (t:Term) (ht:TOk t∧t.count≤10000):R P f_r11_Count [.agg t.row]=some (.tup [.int .i64 (cntX t),.int .i64 (conE t)]):=by
  have hck:=s_r11_Bool t ht
  rcases Classical.propComplete (conE t=0) with c0 | c0
  rotate_left
  · have c0':=of_eq_false c0
    have hX:cntX t=0:=by unfold cntX conT;rw [if_neg c0'];rfl
    rw [hX]
    generalize conE t=ee at *
    generalize conV t=vv at *
    (rw [r_r11_Count (lbY rfl),F_r11_Count];simp (disch:=omega) only [eqZ,↓gc_len,seval,-List.reduceReplicate,reduceCtorEq,allP,q_r11_Bool,hck,c0])
  · have hE:=of_eq_true c0
    have hg:=(con_good hE).1
    have hC:conV t=varsX [t]:=by unfold conV;rw [hE,if_pos rfl]
    have h1:=l0_cR t hE ⟨ht.1,by have:=ht.2;omega⟩
    have hb16:=hg.bits16
    have hp:(2:Nat)^bitsX [t]≤2^16:=Nat.pow_le_pow_right (show 0<2 by omega) hb16
    have hbits:=r_BitsX (varsX [t]) hg.ok (by have:=hg.len;omega)
    rw [hg.bitsV] at hbits
    have hshl:=shl_1 (i:=bitsX [t]) (by omega) (k:=.u64)
    have hwb:=u_wrap (n:=bitsX [t]) (by omega)
    rw [hC,hE] at hck
    rw [hE]
    generalize cntX t=cc at *
    generalize varsX [t]=vv at *
    generalize bitsX [t]=bb at *
    simp only [e_cR,Int.natCast_zero] at h1
    have h1':loopAt P L0_r11_Count [(1,.p (.ptr t.row 0)),(4,.p (.lst (vv.map vrow))),(6,.p (.int .i64 0)),(7,.p (.int .u64 0))] [] 33 none=_:=h1
    (rw [r_r11_Count (lbY rfl),F_r11_Count];simp (disch:=omega) only [eqZ,↓gc_len,seval,-List.reduceReplicate,reduceCtorEq,allP,k0_r11_Count,q_r11_Bool,hck,h1',B0_r11_Count,q_r08_Bits,hbits,hwb,hshl,Int.lt_irrefl])
abbrev e_smB (l:List Bd) (i:Int):List (Nat×AV):=[(0,.p (.lst (l.map brow))),(1,.p (.lst (l.map brow))),(5,.p (.int .i64 i))]
theorem b_ldq {b:Bd}:loadV σ 2 true (.p (.ptr (brow b) 0))=some (.p (.agg (brow b))):=rfl
theorem b_eqR {b:Bd}:eqAV true [.str,.int] (.p (.agg (brow b))) (.p (.agg (brow b)))=some (.p (.bool false)):=by
  simp [eqAV,brow,eqCells,eqLeaf]
set_option maxHeartbeats 4000000 in
theorem s_r11_Same (l:List Bd) (hl:l.length≤1000000):R P f_r11_Same [.lst (l.map brow),.lst (l.map brow)]=some (.bool true):=by
  obtain ⟨_,h⟩:=loop_run (P:=P) (nt:=26) (lv:=[0,1,5]) (b:=B0_r11_Same) (rd:=none) (as:=l) (fun i (s:Unit)=>e_smB l i) (fun _=>[]) (fun _ _ _=>()) (fun _ _=>True)
    (fun i v s hv hi hs=>by
      have hlt:((i:Int)<l.length)=True:=by simpa using hi
      have hx:=fun σ=>v_iadr (k:=.i64) (es:=2) (σ:=σ) (map_get (f:=brow) hv) (b_len v)
      refine ⟨trivial,?_⟩
      simp only [B0_r11_Same]
      simp (disch:=omega) only [eqZ,↓gc_len,seval,-List.reduceReplicate,reduceCtorEq,allP,hlt,hx,List.length_map,b_ldq,b_eqR,e_smB]) (fun i s=>rfl) () trivial () (by
    have key:∀ (l:List Bd) (i:Nat),foldE (T:=Empty) (fun _ _ _=>.inl ()) i () l=.inl ():=fun l=>by
      induction l with
      | nil=>intro i;rfl
      | cons a l ih=>intro i;exact ih (i+1)
    exact key l 0)
  have h':loopAt P L0_r11_Same [(0,.p (.lst (l.map brow))),(1,.p (.lst (l.map brow))),(5,.p (.int .i64 0))] [] 26 none=_:=h
  (rw [r_r11_Same (lbY rfl),F_r11_Same];simp (disch:=omega) only [eqZ,↓gc_len,seval,-List.reduceReplicate,reduceCtorEq,allP,k0_r11_Same,h',B0_r11_Same,Int.lt_irrefl,List.length_map])
def fewB (l:List Term):Bool:=(l.all fun t=>decide ((t.deep:Int)≤66∧(t.count:Int)≤40)) && decide (l.length≤6)
def smallB (l:List Term):Bool:=fewB l && (!decide (varsE l=0) || decide (bitsX l≤7))
abbrev e_fw (l:List Term) (i:Int):List (Nat×AV):=[(0,.p (.lst (l.map Term.row))),(3,.p (.int .i64 i))]
def outFw (r:Ex×St):Prop:=r.1=.ret∧r.2.τ.get 2=.p (.bool false)∧r.2.σ=[]
theorem ini_5t {t:Term}:initV σ 5 true (cellsOf 5 true (.p (.agg t.row)))=some (.p (.ptr t.row 0),σ):=by rw [Term.row_eq t];rfl
set_option maxHeartbeats 4000000 in
theorem s_r11_Few (l:List Term) (ht:∀ t∈l,TOk t) (hl:l.length≤9223372036854775807):R P f_r11_Few [.lst (l.map Term.row)]=some (.bool (fewB l)):=by
  have hh:=loop_to (P:=P) (nt:=25) (lv:=[0,3]) (b:=B0_r11_Few) (rd:=none) (as:=l) (fun i (_:Unit)=>e_fw l i) (fun _=>[]) (fun _ _ t=>if decide ((t.deep:Int)≤66∧(t.count:Int)≤40)=true then .inl () else .inr ()) (fun _ r=>outFw r) (fun _ _=>True)
    (fun i t s hv hi _=>by
      refine ⟨fun _ _=>trivial,?_⟩
      have hlt:((i:Int)<l.length)=True:=by simpa using hi
      have hx:=fun σ=>v_iadr (k:=.i64) (es:=5) (σ:=σ) (map_get (f:=Term.row) hv) t.row_len
      have hr:=s_r06_Light t (ht t (List.mem_of_getElem? hv)) 66 40 (by decide) (by decide)
      unfold lightV at hr
      by_cases c:(t.deep:Int)≤66∧(t.count:Int)≤40
      · rw [if_pos c] at hr
        simp only [B0_r11_Few,decide_eq_true c,if_true]
        simp (disch:=omega) only [eqZ,↓gc_len,seval,-List.reduceReplicate,reduceCtorEq,allP,hlt,hx,List.length_map,q_r06_Light,hr,ini_5t,e_fw]
      · rw [if_neg c] at hr
        simp only [B0_r11_Few,decide_eq_false c,Bool.false_eq_true,if_false]
        simp (disch:=omega) only [eqZ,↓gc_len,seval,-List.reduceReplicate,reduceCtorEq,allP,hlt,hx,List.length_map,q_r06_Light,hr,ini_5t,e_fw,outFw]) (fun i s=>rfl) () trivial
  rw [fold_allR] at hh
  unfold fewB
  cases hb:l.all fun t=>decide ((t.deep:Int)≤66∧(t.count:Int)≤40) with
  | true=>
    rw [hb,if_pos rfl] at hh
    have h':loopAt P L0_r11_Few [(0,.p (.lst (l.map Term.row))),(3,.p (.int .i64 0))] [] 25 none=_:=hh.2
    have hd:decide (l.length≤6)=decide ((l.length:Int)≤6):=by
      apply decide_eq_decide.2;omega
    rw [Bool.true_and,hd]
    (rw [r_r11_Few (lbY rfl),F_r11_Few];simp (disch:=omega) only [eqZ,↓gc_len,seval,-List.reduceReplicate,reduceCtorEq,allP,k0_r11_Few,h',B0_r11_Few,Int.lt_irrefl,List.length_map])
  | false=>
    rw [hb,if_neg (by simp)] at hh
    obtain ⟨⟨e',τ',σ',nt',rd'⟩,g1,g2,g3,g4⟩:=hh
    simp only at g2 g3 g4
    subst g2
    have h':loopAt P L0_r11_Few [(0,.p (.lst (l.map Term.row))),(3,.p (.int .i64 0))] [] 25 none=_:=g1
    rw [Bool.false_and]
    (rw [r_r11_Few (lbY rfl),F_r11_Few];simp (disch:=omega) only [eqZ,↓gc_len,seval,-List.reduceReplicate,reduceCtorEq,allP,k0_r11_Few,h',g3,g4])
theorem few_all {l:List Term} (h:fewB l=true):(∀ t∈l,t.deep≤66∧t.count≤40)∧l.length≤6:=by
  unfold fewB at h
  rw [Bool.and_eq_true,List.all_eq_true] at h
  refine ⟨fun t ht=>?_,of_decide_eq_true h.2⟩
  have:=of_decide_eq_true (h.1 t ht)
  omega
set_option maxHeartbeats 4000000 in
theorem s_r11_Small (l:List Term) (ht:∀ t∈l,TOk t) (hl:l.length≤9223372036854775807):R P f_r11_Small [.lst (l.map Term.row)]=some (.bool (smallB l)):=by
  have hf:=s_r11_Few l ht hl
  unfold smallB
  cases hb:fewB l with
  | false=>
    rw [hb] at hf
    (rw [r_r11_Small (lbY rfl),F_r11_Small];simp (disch:=omega) only [eqZ,↓gc_len,seval,-List.reduceReplicate,reduceCtorEq,allP,q_r11_Few,hf])
    rfl
  | true=>
    rw [hb] at hf
    obtain ⟨h1,h2⟩:=few_all hb
    have hV:=s_r11_Vars l (fun t h=>⟨ht t h,by have:=(h1 t h).2;omega⟩) (by omega)
    rcases Classical.propComplete (varsE l=0) with c0 | c0
    rotate_left
    · generalize varsE l=ee at *
      generalize varsR l=vv at *
      (rw [r_r11_Small (lbY rfl),F_r11_Small];simp (disch:=omega) only [eqZ,↓gc_len,seval,-List.reduceReplicate,reduceCtorEq,allP,q_r11_Few,hf,q_r11_Vars,hV,c0])
      rfl
    · have hg:=good_of (of_eq_true c0)
      have hR:varsR l=varsX l:=by unfold varsR;rw [if_pos (of_eq_true c0)]
      rw [of_eq_true c0,hR] at hV
      have hbits:=r_BitsX (varsX l) hg.ok (by have:=hg.len;omega)
      rw [hg.bitsV] at hbits
      have hd:decide (bitsX l≤7)=decide ((bitsX l:Int)≤7):=by apply decide_eq_decide.2;omega
      rw [of_eq_true c0,hd]
      generalize varsX l=vv at *
      generalize bitsX l=bb at *
      (rw [r_r11_Small (lbY rfl),F_r11_Small];simp (disch:=omega) only [eqZ,↓gc_len,seval,-List.reduceReplicate,reduceCtorEq,allP,q_r11_Few,hf,q_r11_Vars,hV,q_r08_Bits,hbits])
      rfl
end Go.AE.S
