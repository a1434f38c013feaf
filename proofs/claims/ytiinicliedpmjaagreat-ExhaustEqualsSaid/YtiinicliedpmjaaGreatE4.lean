import Derived.Test.YtiinicliedpmjaaGreatE3
namespace Go.AE.S
open Go Go.AE
set_option linter.unusedSimpArgs false
set_option linter.unusedVariables false
variable {τ:Tm} {σ:Store} {rd:Option Nat}
def valR (l:List Bd) (t:Term):Nat:=if boundB l t=true then t.valT (envB l) else 0
theorem s_r11_value (l:List Bd) (hl:∀ b∈l,W b.v) (hln:l.length≤1000000) (t:Term) (h1:AllOk t) (h2:TOk t) (h3:t.count≤1000000):R P f_r11_value [.agg t.row,.lst (l.map brow)]=some (.int .u64 (valR l t:Int)):=by
  have h:=r_Value l hl (by omega) t h1 h2 h3
  unfold valR
  unfold valP at h
  split at h<;>rename_i hb
  · simp only [hb,if_true]
    generalize t.valT (envB l)=x at *
    (rw [r_r11_value (lbY rfl),F_r11_value];simp (disch:=omega) only [eqZ,↓gc_len,seval,-List.reduceReplicate,reduceCtorEq,allP,q_r08_Value,h])
  · have hb':boundB l t=false:=by simpa using hb
    simp only [hb',Bool.false_eq_true,if_false]
    (rw [r_r11_value (lbY rfl),F_r11_value];simp (disch:=omega) only [eqZ,↓gc_len,seval,-List.reduceReplicate,reduceCtorEq,allP,q_r08_Value,h])
abbrev e_ho (hs:List Term) (l:List Bd) (i:Int):List (Nat×AV):=[(0,.p (.lst (hs.map Term.row))),(1,.p (.lst (l.map brow))),(5,.p (.int .i64 i))]
def outHo (r:Ex×St):Prop:=r.1=.ret∧r.2.τ.get 4=.p (.bool false)∧r.2.σ=[]
def isOneR (l:List Bd) (t:Term):Bool:=decide (valR l t=1)
theorem fold_allR {α:Type} (q:α→Bool):∀ (l:List α) (i:Nat),foldE (S:=Unit) (T:=Unit) (fun _ _ a=>if q a=true then .inl () else .inr ()) i () l=if l.all q=true then .inl () else .inr ()
  | [],_=>rfl
  | a :: l,i=>by
    unfold foldE
    cases h:q a with
    | true=>simp only [if_true,List.all_cons,h,Bool.true_and];exact fold_allR q l (i+1)
    | false=>simp [h]
set_option maxHeartbeats 4000000 in
theorem s_r11_holds (l:List Bd) (hl:∀ b∈l,W b.v) (hln:l.length≤1000000) (hs:List Term) (h:∀ t∈hs,AllOk t∧TOk t∧t.count≤1000000) (hn:hs.length≤1000000):R P f_r11_holds [.lst (hs.map Term.row),.lst (l.map brow)]=some (.bool (hs.all (isOneR l))):=by
  have hh:=loop_to (P:=P) (nt:=19) (lv:=[0,1,5]) (b:=B0_r11_holds) (rd:=none) (as:=hs) (fun i (_:Unit)=>e_ho hs l i) (fun _=>[]) (fun _ _ t=>if isOneR l t=true then .inl () else .inr ()) (fun _ r=>outHo r) (fun _ _=>True)
    (fun i t s hv hi _=>by
      refine ⟨fun _ _=>trivial,?_⟩
      have hlt:((i:Int)<hs.length)=True:=by simpa using hi
      have hx:=fun σ=>v_iadr (k:=.i64) (es:=5) (σ:=σ) (map_get (f:=Term.row) hv) t.row_len
      obtain ⟨h1,h2,h3⟩:=h t (List.mem_of_getElem? hv)
      have hr:=s_r11_value l hl hln t h1 h2 h3
      unfold isOneR
      generalize valR l t=x at *
      rcases Classical.propComplete (x=1) with c | c
      · have c2:(((x:Nat):Int)=1)=True:=by rw [of_eq_true c];simp
        simp only [B0_r11_holds,decide_eq_true (of_eq_true c),if_true]
        simp (disch:=omega) only [eqZ,↓gc_len,seval,-List.reduceReplicate,reduceCtorEq,allP,hlt,hx,List.length_map,q_r11_value,hr,c2,e_ho]
      · have c2:(((x:Nat):Int)=1)=False:=by
          simp only [eq_iff_iff,iff_false]
          have:=of_eq_false c
          omega
        simp only [B0_r11_holds,decide_eq_false (of_eq_false c),Bool.false_eq_true,if_false]
        simp (disch:=omega) only [eqZ,↓gc_len,seval,-List.reduceReplicate,reduceCtorEq,allP,hlt,hx,List.length_map,q_r11_value,hr,c2,e_ho,outHo]) (fun i s=>rfl) () trivial
  rw [fold_allR] at hh
  cases hb:hs.all (isOneR l) with
  | true=>
    rw [hb,if_pos rfl] at hh
    have h':loopAt P L0_r11_holds [(0,.p (.lst (hs.map Term.row))),(1,.p (.lst (l.map brow))),(5,.p (.int .i64 0))] [] 19 none=_:=hh.2
    (rw [r_r11_holds (lbY rfl),F_r11_holds];simp (disch:=omega) only [eqZ,↓gc_len,seval,-List.reduceReplicate,reduceCtorEq,allP,k0_r11_holds,h',B0_r11_holds,Int.lt_irrefl,List.length_map])
  | false=>
    rw [hb,if_neg (by simp)] at hh
    obtain ⟨⟨e',τ',σ',nt',rd'⟩,g1,g2,g3,g4⟩:=hh
    simp only at g2 g3 g4
    subst g2
    have h':loopAt P L0_r11_holds [(0,.p (.lst (hs.map Term.row))),(1,.p (.lst (l.map brow))),(5,.p (.int .i64 0))] [] 19 none=_:=g1
    (rw [r_r11_holds (lbY rfl),F_r11_holds];simp (disch:=omega) only [eqZ,↓gc_len,seval,-List.reduceReplicate,reduceCtorEq,allP,k0_r11_holds,h',g3,g4])
def chkW (hs:List Term) (a b:Term):List V2:=if valE hs a b=0 then varsX (eqW hs a b) else []
abbrev e_chW (hs:List Term) (a b:Term) (vs:List V2) (i:Int):List (Nat×AV):=[(0,.p (.lst (hs.map Term.row))),(4,.p (.ptr a.row 0)),(5,.p (.ptr b.row 0)),(9,.p (.lst (vs.map vrow))),(11,.p (.int .i64 i))]
def outChW (σ:Store) (r:Ex×St):Prop:=∃ τ',r=(.ret,⟨τ',σ,r.2.nt,r.2.rd⟩)∧τ'.get 6=.nils∧τ'.get 7=.p (.int .i64 3)
def isW1 (t:Term):Bool:=decide (t.w=1)
theorem any_notOne (hs:List Term):(hs.any notOne=false)=(hs.all isW1=true):=by
  simp only [eq_iff_iff,List.any_eq_false,List.all_eq_true,notOne,isW1,Bool.not_eq_true',decide_eq_false_iff_not,Classical.not_not,decide_eq_true_eq]
set_option maxHeartbeats 4000000 in
theorem l0_chW (hs:List Term) (a b:Term) (vs:List V2) (o:Obj) (hn:hs.length≤1000000):if hs.all isW1=true then loopAt P L0_r11_Checked (e_chW hs a b vs 0) [o] 45 none=back P [0,4,5,9,11] B0_r11_Checked 1 (exec P B0_r11_Checked ⟨tm (e_chW hs a b vs hs.length),[o],45,none⟩) else ∃ r,loopAt P L0_r11_Checked (e_chW hs a b vs 0) [o] 45 none=some r∧outChW [o] r:=by
  have hh:=loop_to (P:=P) (nt:=45) (lv:=[0,4,5,9,11]) (b:=B0_r11_Checked) (rd:=none) (as:=hs) (fun i (_:Unit)=>e_chW hs a b vs i) (fun _=>[o]) (fun _ _ t=>if isW1 t=true then .inl () else .inr ()) (fun _ r=>outChW [o] r) (fun _ _=>True)
    (fun i t s hv hi _=>by
      refine ⟨fun _ _=>trivial,?_⟩
      have hlt:((i:Int)<hs.length)=True:=by simpa using hi
      have hx:=fun σ=>v_iadr (k:=.i64) (es:=5) (σ:=σ) (map_get (f:=Term.row) hv) t.row_len
      unfold isW1
      rcases Classical.propComplete (t.w=1) with c | c
      · simp only [B0_r11_Checked,decide_eq_true (of_eq_true c),if_true]
        simp (disch:=omega) only [eqZ,↓gc_len,seval,-List.reduceReplicate,reduceCtorEq,allP,hlt,hx,List.length_map,c,e_chW]
      · simp only [B0_r11_Checked,decide_eq_false (of_eq_false c),Bool.false_eq_true,if_false]
        simp (disch:=omega) only [eqZ,↓gc_len,seval,-List.reduceReplicate,reduceCtorEq,allP,hlt,hx,List.length_map,c,e_chW,outChW]
        exact ⟨_,rfl,rfl,rfl⟩) (fun i s=>rfl) () trivial
  rw [fold_allR] at hh
  cases hb:hs.all isW1 with
  | true=>
    rw [hb,if_pos rfl] at hh
    rw [if_pos rfl]
    exact hh.2
  | false=>
    rw [hb,if_neg (by simp)] at hh
    rw [if_neg (by simp)]
    exact hh
theorem app_v0 {rs:List (List PV)} {n:Nat} (hn:rs.length=n) (hl:n≤90):appendV [.pv 0 [] false] 5 64 (.sl 0 0) (some (.inl rs))=some (.sl 0 n,[.pv 5 rs false]):=by
  have h:=v_append (σ:=[.pv 0 [] false]) (b:=0) (n:=0) (e:=0) (es:=5) (bytes:=64) (rows:=[]) (new:=rs) rfl rfl (.inr ⟨rfl,rfl⟩) (by omega)
  rw [hn] at h
  simpa using h
theorem app_vb {rs:List (List PV)} {n:Nat} {a b:Term} (hn:rs.length=n) (hl:n≤90):appendV [.pv 5 rs false] 5 64 (.sl 0 n) (some (.inl [a.row,b.row]))=some (.sl 0 (n+2),[.pv 5 (rs++[a.row,b.row]) false]) :=
  v_append (σ:=[.pv 5 rs false]) (b:=0) (n:=n) (e:=5) (es:=5) (bytes:=64) (rows:=rs) (new:=[a.row,b.row]) rfl hn (.inl rfl) (by simp only [List.length_cons,List.length_nil];omega)
set_option maxHeartbeats 8000000 in
theorem s_r11_Checked (hs:List Term) (a b:Term) (ht:∀ t∈eqW hs a b,TOk t∧t.count≤10000) (hl:hs.length≤90):R P f_r11_Checked [.lst (hs.map Term.row),.agg a.row,.agg b.row]=some (.tup [.lst ((chkW hs a b).map vrow),.int .i64 (valE hs a b)]):=by
  have hll:(eqW hs a b).length=hs.length+2:=by simp [eqW]
  have hV:=s_r11_Vars (eqW hs a b) ht (by omega)
  have hrow:(eqW hs a b).map Term.row=hs.map Term.row++[a.row,b.row]:=by simp [eqW]
  have hsz:(hs.map Term.row).length=hs.length:=List.length_map ..
  have ha0:=app_v0 hsz hl
  have ha1:=app_vb (a:=a) (b:=b) hsz hl
  have hsr:=fun (σ:Store)=>src_p (σ:=σ) (es:=5) (rows:=hs.map Term.row) (by simp [wide,Term.row_len])
  have hP:∀ (k:Nat) (f:Bool),purify [.pv 5 (hs.map Term.row++[a.row,b.row]) f] (k+1) (.sl 0 (hs.length+2))=some (.lst (hs.map Term.row++[a.row,b.row])):=fun k f=>by simp [purify]
  rw [hrow] at hV
  rcases Classical.propComplete (varsE (eqW hs a b)=0) with c0 | c0
  rotate_left
  · have c0':=of_eq_false c0
    have hE:valE hs a b=varsE (eqW hs a b):=by unfold valE;rw [if_pos c0']
    have hA:chkW hs a b=[]:=by unfold chkW;rw [hE,if_neg c0']
    rw [hE,hA]
    generalize varsE (eqW hs a b)=ee at *
    generalize varsR (eqW hs a b)=vv at *
    generalize hs.map Term.row=rs at *
    (rw [r_r11_Checked (lbY rfl),F_r11_Checked];simp (disch:=omega) only [eqZ,↓gc_len,seval,-List.reduceReplicate,reduceCtorEq,allP,hsz,hsr,ha0,ha1,blist_2t,src_r2,regD_go,regD_some,regOk,apartOk,pureRead,blkOf,noNils,Bool.true_or,Bool.or_true,Bool.and_self,if_true,q_r11_Vars,hV,c0,hP,frz_v0])
  · have hR:varsR (eqW hs a b)=varsX (eqW hs a b):=by unfold varsR;rw [if_pos (of_eq_true c0)]
    rw [of_eq_true c0,hR] at hV
    have hl0:=fun o=>l0_chW hs a b (varsX (eqW hs a b)) o (by omega)
    cases h1:hs.all isW1 with
    | false=>
      have hE:valE hs a b=3:=by unfold valE;rw [if_neg (by simpa using of_eq_true c0),if_neg (fun h=>by rw [any_notOne,h1] at h;exact absurd h.2 (by simp))]
      have hA:chkW hs a b=[]:=by unfold chkW;rw [hE,if_neg (by decide)]
      rw [hE,hA]
      simp only [h1,Bool.false_eq_true,if_false] at hl0
      generalize varsX (eqW hs a b)=vv at *
      obtain ⟨⟨e',τ',σ',nt',rd'⟩,g1,τ2,g2,g3,g4⟩:=hl0 (.pv 5 (hs.map Term.row++[a.row,b.row]) (false || !(PV.tup [.lst (vv.map vrow),.int .i64 0]).flat))
      simp only [Prod.mk.injEq] at g2
      obtain ⟨rfl,g2⟩:=g2
      simp only [St.mk.injEq] at g2
      obtain ⟨rfl,rfl,-⟩:=g2
      simp only [e_chW] at g1
      generalize hs.map Term.row=rs at *
      (rw [r_r11_Checked (lbY rfl),F_r11_Checked];simp (disch:=omega) only [eqZ,↓gc_len,seval,-List.reduceReplicate,reduceCtorEq,allP,k0_r11_Checked,hsz,hsr,ha0,ha1,blist_2t,src_r2,regD_go,regD_some,regOk,apartOk,pureRead,blkOf,noNils,Bool.true_or,Bool.or_true,Bool.and_self,if_true,q_r11_Vars,hV,hP,frz_v0,g1,g3,g4])
    | true=>
      simp only [h1,if_true] at hl0
      have hl0:=hl0 (.pv 5 (hs.map Term.row++[a.row,b.row]) (false || !(PV.tup [.lst ((varsX (eqW hs a b)).map vrow),.int .i64 0]).flat))
      simp only [e_chW] at hl0
      rcases Classical.propComplete (a.w=b.w) with c | c
      · have hE:valE hs a b=0:=by unfold valE;rw [if_neg (by simpa using of_eq_true c0),if_pos ⟨of_eq_true c,by rw [any_notOne];exact h1⟩]
        have hA:chkW hs a b=varsX (eqW hs a b):=by unfold chkW;rw [hE,if_pos rfl]
        rw [hE,hA]
        generalize varsX (eqW hs a b)=vv at *
        generalize hs.map Term.row=rs at *
        (rw [r_r11_Checked (lbY rfl),F_r11_Checked];simp (disch:=omega) only [eqZ,↓gc_len,seval,-List.reduceReplicate,reduceCtorEq,allP,k0_r11_Checked,hsz,hsr,ha0,ha1,blist_2t,src_r2,regD_go,regD_some,regOk,apartOk,pureRead,blkOf,noNils,Bool.true_or,Bool.or_true,Bool.and_self,if_true,q_r11_Vars,hV,hP,frz_v0,hl0,B0_r11_Checked,Int.lt_irrefl,c])
      · have hE:valE hs a b=3:=by unfold valE;rw [if_neg (by simpa using of_eq_true c0),if_neg (fun h=>of_eq_false c h.1)]
        have hA:chkW hs a b=[]:=by unfold chkW;rw [hE,if_neg (by decide)]
        rw [hE,hA]
        generalize varsX (eqW hs a b)=vv at *
        generalize hs.map Term.row=rs at *
        (rw [r_r11_Checked (lbY rfl),F_r11_Checked];simp (disch:=omega) only [eqZ,↓gc_len,seval,-List.reduceReplicate,reduceCtorEq,allP,k0_r11_Checked,hsz,hsr,ha0,ha1,blist_2t,src_r2,regD_go,regD_some,regOk,apartOk,pureRead,blkOf,noNils,Bool.true_or,Bool.or_true,Bool.and_self,if_true,q_r11_Vars,hV,hP,frz_v0,hl0,B0_r11_Checked,Int.lt_irrefl,c])
def ceR (hs:List Term) (a b:Term) (l:List Bd):Bool:=hs.all (isOneR l) && !decide (valR l a=valR l b)
theorem tvX_get {L:List Term} {t:Term} {k:Nat} (hk:k<2^bitsX L):(tvX L t).getD k 0=t.valT (envB (assignT k (varsX L))):=by
  unfold tvX tabV
  rw [List.getD_eq_getElem?_getD,List.getElem?_map,List.getElem?_range hk]
  rfl
theorem valR_X {L:List Term} (hg:Good L) {t:Term} (hm:t∈L) (k:Nat):valR (assignT k (varsX L)) t=t.valT (envB (assignT k (varsX L))):=by
  unfold valR
  rw [bound_assign (hg.bound hm) k,if_pos rfl]
theorem ceR_X {hs:List Term} {a b:Term} (hg:Good (eqW hs a b)) {k:Nat} (hk:k<2^bitsX (eqW hs a b)):ceX (tabsX hs a b) hs.length k=ceR hs a b (assignT k (varsX (eqW hs a b))):=by
  have ha:a∈eqW hs a b:=by simp [eqW]
  have hb:b∈eqW hs a b:=by simp [eqW]
  have hh:∀ t∈hs,t∈eqW hs a b:=fun t h=>by simp [eqW,h]
  unfold ceX ceR tabsX
  have e1:((eqW hs a b).map (tvX (eqW hs a b))).take hs.length=hs.map (tvX (eqW hs a b)):=by
    rw [← List.map_take];simp [eqW]
  have e2:((eqW hs a b).map (tvX (eqW hs a b))).getD hs.length []=tvX (eqW hs a b) a:=by
    rw [List.getD_eq_getElem?_getD,List.getElem?_map];simp [eqW]
  have e3:((eqW hs a b).map (tvX (eqW hs a b))).getD (hs.length+1) []=tvX (eqW hs a b) b:=by
    rw [List.getD_eq_getElem?_getD,List.getElem?_map];simp [eqW]
  rw [e1,e2,e3,tvX_get hk,tvX_get hk,← valR_X hg ha,← valR_X hg hb]
  congr 1
  unfold allOne
  rw [List.all_map]
  have key:∀ l:List Term,(∀ t∈l,t∈eqW hs a b)→(l.all ((fun x=>decide (x.getD k 0=1))∘tvX (eqW hs a b)))=l.all (isOneR (assignT k (varsX (eqW hs a b)))):=by
    intro l hl
    induction l with
    | nil=>rfl
    | cons t l ih=>
      rw [List.all_cons,List.all_cons,ih fun t h=>hl t (by simp [h])]
      congr 1
      show decide ((tvX (eqW hs a b) t).getD k 0=1)=_
      unfold isOneR
      rw [tvX_get hk,← valR_X hg (hl t (by simp))]
  exact key hs hh
abbrev e_vR (hs:List Term) (a b:Term) (vs:List V2) (i:Nat):List (Nat×AV):=[(0,.p (.lst (hs.map Term.row))),(4,.p (.ptr a.row 0)),(5,.p (.ptr b.row 0)),(9,.p (.lst (vs.map vrow))),(11,.p (.int .u64 (i:Int)))]
def outVR (vs:List V2) (k:Nat) (r:Ex×St):Prop:=r.1=.ret∧r.2.σ=[]∧r.2.τ.get 6=.p (.bool false)∧r.2.τ.get 7=.p (.lst ((assignT k vs).map brow))∧r.2.τ.get 8=.p (.int .i64 0)
theorem rng_get {n i k:Nat} (h:(List.range n)[i]? = some k):k=i∧i<n:=by
  have h1:=(List.getElem?_eq_some_iff.1 h).1
  rw [List.length_range] at h1
  rw [List.getElem?_range h1] at h
  exact ⟨(Option.some.inj h).symm,h1⟩
theorem u_wrap {n:Nat} (h:n<18446744073709551616):IntKind.u64.wrap (n:Int)=n:=by rw [w64,Nat.mod_eq_of_lt h]
set_option maxHeartbeats 8000000 in
theorem l0_vR (hs:List Term) (a b:Term) (hg:Good (eqW hs a b)) (ht:∀ t∈eqW hs a b,TOk t∧t.count≤1000000) (hl:hs.length≤1000000) :
    match (List.range (2^bitsX (eqW hs a b))).find? (fun k=>ceR hs a b (assignT k (varsX (eqW hs a b)))) with
    | none=>loopAt P L0_r11_Valid (e_vR hs a b (varsX (eqW hs a b)) 0) [] 47 none=back P [0,4,5,9,11] B0_r11_Valid 0 (exec P B0_r11_Valid ⟨tm (e_vR hs a b (varsX (eqW hs a b)) (2^bitsX (eqW hs a b))),[],47,none⟩)
    | some k=>∃ r,loopAt P L0_r11_Valid (e_vR hs a b (varsX (eqW hs a b)) 0) [] 47 none=some r∧outVR (varsX (eqW hs a b)) k r:=by
  have hb16:=hg.bits16
  have hp:(2:Nat)^bitsX (eqW hs a b)≤2^16:=Nat.pow_le_pow_right (show 0<2 by omega) hb16
  have hbits:=r_BitsX (varsX (eqW hs a b)) hg.ok (by have:=hg.len;omega)
  rw [hg.bitsV] at hbits
  have hshl:=shl_1 (i:=bitsX (eqW hs a b)) (by omega) (k:=.u64)
  have hwb:=u_wrap (n:=bitsX (eqW hs a b)) (by omega)
  have hh:=loop_to (P:=P) (nt:=47) (lv:=[0,4,5,9,11]) (b:=B0_r11_Valid) (rd:=none) (as:=List.range (2^bitsX (eqW hs a b))) (fun i (_:Unit)=>e_vR hs a b (varsX (eqW hs a b)) i) (fun _=>[]) (fun _ _ k=>if ceR hs a b (assignT k (varsX (eqW hs a b)))=true then .inr k else .inl ()) (outVR (varsX (eqW hs a b))) (fun _ _=>True)
    (fun i k s hv hi _=>by
      refine ⟨fun _ _=>trivial,?_⟩
      obtain ⟨rfl,hi2⟩:=rng_get hv
      have hlt:(((k:Nat):Int)<((2^bitsX (eqW hs a b):Nat):Int))=True:=by simp only [eq_iff_iff,iff_true];omega
      have hA:=r_Assign (varsX (eqW hs a b)) hg.ok (by have:=hg.len;omega) k (show W k by unfold W;omega)
      have hlW:=assign_W (varsX (eqW hs a b)) k
      have hln:(assignT k (varsX (eqW hs a b))).length≤1000000:=by rw [assign_len];have:=hg.len;omega
      have hma:a∈eqW hs a b:=by simp [eqW]
      have hmb:b∈eqW hs a b:=by simp [eqW]
      have hok:∀ t∈eqW hs a b,AllOk t:=fun t h=>check_all (chkL_zero hg.chk t h)
      have hho:=s_r11_holds _ hlW hln hs (fun t h=>have hm:t∈eqW hs a b:=by simp [eqW,h]
        ⟨hok t hm,(ht t hm).1,(ht t hm).2⟩) hl
      have hva:=s_r11_value _ hlW hln a (hok a hma) (ht a hma).1 (ht a hma).2
      have hvb:=s_r11_value _ hlW hln b (hok b hmb) (ht b hmb).1 (ht b hmb).2
      have hwr:=u_wrap (n:=k+1) (by omega)
      have hwr':IntKind.u64.wrap ((k:Int)+1)=((k+1:Nat):Int):=hwr
      unfold ceR outVR
      generalize hal:assignT k (varsX (eqW hs a b))=l at *
      generalize varsX (eqW hs a b)=vs at *
      generalize bitsX (eqW hs a b)=bb at *
      generalize valR l a=xa at *
      generalize valR l b=xb at *
      cases h1:hs.all (isOneR l) with
      | false=>
        rw [h1] at hho
        simp only [Bool.false_and,Bool.false_eq_true,if_false]
        simp only [B0_r11_Valid]
        simp (disch:=omega) only [eqZ,↓gc_len,seval,-List.reduceReplicate,reduceCtorEq,allP,q_r08_Bits,hbits,hwb,hshl,hlt,q_r08_Assign,hA,q_r11_holds,hho,hwr',e_vR]
      | true=>
        rw [h1] at hho
        simp only [Bool.true_and]
        rcases Classical.propComplete (xa=xb) with c | c
        · have c2:(((xa:Nat):Int)=((xb:Nat):Int))=True:=by simp [of_eq_true c]
          simp only [decide_eq_true (of_eq_true c),Bool.not_true,Bool.false_eq_true,if_false]
          simp only [B0_r11_Valid]
          simp (disch:=omega) only [eqZ,↓gc_len,seval,-List.reduceReplicate,reduceCtorEq,allP,q_r08_Bits,hbits,hwb,hshl,hlt,q_r08_Assign,hA,q_r11_holds,hho,q_r11_value,hva,hvb,c2,hwr',e_vR]
        · have c2:(((xa:Nat):Int)=((xb:Nat):Int))=False:=by
            simp only [eq_iff_iff,iff_false]
            have:=of_eq_false c
            omega
          simp only [decide_eq_false (of_eq_false c),Bool.not_false,if_true]
          simp only [B0_r11_Valid]
          simp (disch:=omega) only [eqZ,↓gc_len,seval,-List.reduceReplicate,reduceCtorEq,allP,q_r08_Bits,hbits,hwb,hshl,hlt,q_r08_Assign,hA,q_r11_holds,hho,q_r11_value,hva,hvb,c2,hwr',e_vR]
          rw [hal]) (fun i s=>rfl) () trivial
  rw [fold_fndN] at hh
  cases hf:(List.range (2^bitsX (eqW hs a b))).find? (fun k=>ceR hs a b (assignT k (varsX (eqW hs a b)))) with
  | none=>
    rw [hf] at hh
    have h2:=hh.2
    rw [List.length_range] at h2
    exact h2
  | some k=>
    rw [hf] at hh
    exact hh
theorem find_congr {p q:Nat→Bool}:∀ {l:List Nat},(∀ k∈l,p k=q k)→l.find? p=l.find? q
  | [],_=>rfl
  | a :: l,h=>by
    rw [List.find?_cons,List.find?_cons,h a (by simp),find_congr fun k hk=>h k (by simp [hk])]
set_option maxHeartbeats 4000000 in
theorem s_r11_Valid (hs:List Term) (a b:Term) (ht:∀ t∈eqW hs a b,TOk t∧t.count≤10000) (hl:hs.length≤90):R P f_r11_Valid [.lst (hs.map Term.row),.agg a.row,.agg b.row]=some (.tup [.bool (valB hs a b),.lst ((valA hs a b).map brow),.int .i64 (valE hs a b)]):=by
  have hck:=s_r11_Checked hs a b ht hl
  rcases Classical.propComplete (valE hs a b=0) with c0 | c0
  rotate_left
  · have c0':=of_eq_false c0
    have hX:valX hs a b=none:=by unfold valX;rw [if_neg c0']
    have hB:valB hs a b=false:=by unfold valB;rw [decide_eq_false c0'];rfl
    have hA:valA hs a b=[]:=by unfold valA;rw [hX]
    rw [hB,hA]
    generalize valE hs a b=ee at *
    generalize chkW hs a b=vv at *
    (rw [r_r11_Valid (lbY rfl),F_r11_Valid];simp (disch:=omega) only [eqZ,↓gc_len,seval,-List.reduceReplicate,reduceCtorEq,allP,q_r11_Checked,hck,c0])
  · have hE:=of_eq_true c0
    have h0:varsE (eqW hs a b)=0:=by
      rcases Classical.propComplete (varsE (eqW hs a b)=0) with h | h
      · exact of_eq_true h
      · unfold valE at hE;rw [if_pos (of_eq_false h)] at hE;exact hE
    have hg:=good_of h0
    have hC:chkW hs a b=varsX (eqW hs a b):=by unfold chkW;rw [if_pos hE]
    have h1:=l0_vR hs a b hg (fun t h=>⟨(ht t h).1,by have:=(ht t h).2;omega⟩) (by omega)
    have hb16:=hg.bits16
    have hp:(2:Nat)^bitsX (eqW hs a b)≤2^16:=Nat.pow_le_pow_right (show 0<2 by omega) hb16
    have hbits:=r_BitsX (varsX (eqW hs a b)) hg.ok (by have:=hg.len;omega)
    rw [hg.bitsV] at hbits
    have hshl:=shl_1 (i:=bitsX (eqW hs a b)) (by omega) (k:=.u64)
    have hwb:=u_wrap (n:=bitsX (eqW hs a b)) (by omega)
    have hX:valX hs a b=(List.range (2^bitsX (eqW hs a b))).find? (fun k=>ceR hs a b (assignT k (varsX (eqW hs a b)))):=by
      unfold valX
      rw [if_pos hE]
      exact find_congr fun k hk=>ceR_X hg (List.mem_range.1 hk)
    rw [← hX] at h1
    rw [hC,hE] at hck
    rw [hE]
    unfold valB valA
    rw [hE]
    show R P f_r11_Valid _=some (.tup [.bool (decide ((0:Int)=0) && (valX hs a b).isNone),_,_])
    generalize valX hs a b=vX at *
    generalize varsX (eqW hs a b)=vv at *
    generalize bitsX (eqW hs a b)=bb at *
    cases vX with
    | none=>
      simp only [e_vR,Int.natCast_zero] at h1
      have h1':loopAt P L0_r11_Valid [(0,.p (.lst (hs.map Term.row))),(4,.p (.ptr a.row 0)),(5,.p (.ptr b.row 0)),(9,.p (.lst (vv.map vrow))),(11,.p (.int .u64 0))] [] 47 none=_:=h1
      (rw [r_r11_Valid (lbY rfl),F_r11_Valid];simp (disch:=omega) only [eqZ,↓gc_len,seval,-List.reduceReplicate,reduceCtorEq,allP,k0_r11_Valid,q_r11_Checked,hck,h1',B0_r11_Valid,q_r08_Bits,hbits,hwb,hshl,Int.lt_irrefl])
      rfl
    | some k=>
      obtain ⟨⟨e',τ',σ',nt',rd'⟩,g1,g2,g3,g4,g5,g6⟩:=h1
      simp only at g2 g3 g4 g5 g6
      subst g2;subst g3
      simp only [e_vR,Int.natCast_zero] at g1
      have h1':loopAt P L0_r11_Valid [(0,.p (.lst (hs.map Term.row))),(4,.p (.ptr a.row 0)),(5,.p (.ptr b.row 0)),(9,.p (.lst (vv.map vrow))),(11,.p (.int .u64 0))] [] 47 none=_:=g1
      (rw [r_r11_Valid (lbY rfl),F_r11_Valid];simp (disch:=omega) only [eqZ,↓gc_len,seval,-List.reduceReplicate,reduceCtorEq,allP,k0_r11_Valid,q_r11_Checked,hck,h1',g4,g5,g6])
      rfl
theorem s_r11_Equal (a b:Term) (ha:TOk a∧a.count≤10000) (hb:TOk b∧b.count≤10000):R P f_r11_Equal [.agg a.row,.agg b.row]=some (.tup [.bool (valB [] a b),.lst ((valA [] a b).map brow),.int .i64 (valE [] a b)]):=by
  have h:=s_r11_Valid [] a b (fun t h=>by rcases List.mem_cons.1 h with rfl | h;exact ha;rw [List.mem_singleton.1 h];exact hb) (by simp)
  rw [List.map_nil] at h
  (rw [r_r11_Equal (lbY rfl),F_r11_Equal];simp (disch:=omega) only [eqZ,↓gc_len,seval,-List.reduceReplicate,reduceCtorEq,allP,q_r11_Valid,h])
abbrev e_smB (l:List Bd) (i:Int):List (Nat×AV):=[(0,.p (.lst (l.map brow))),(1,.p (.lst (l.map brow))),(5,.p (.int .i64 i))]
theorem b_ldq {b:Bd}:loadV σ 2 true (.p (.ptr (brow b) 0))=some (.p (.agg (brow b))):=rfl
theorem b_eqR {b:Bd}:eqAV true [.str,.int] (.p (.agg (brow b))) (.p (.agg (brow b)))=some (.p (.bool false)):=by
  simp [eqAV,brow,eqCells,eqLeaf]
set_option maxHeartbeats 4000000 in
theorem s_r11_Same (l:List Bd) (hl:l.length≤1000000):R P f_r11_Same [.lst (l.map brow),.lst (l.map brow)]=some (.bool true):=by
  obtain ⟨_,h⟩:=loop_run (P:=P) (nt:=26) (lv:=[0,1,5]) (b:=B0_r11_Same) (rd:=none) (as:=l) (fun i (s:Unit)=>e_smB l i) (fun _=>[]) (fun _ _ _=>()) (fun _ _=>True)
    (fun i v s hv hi hs=>by
      have hlt:((i:Int)<l.length)=True:=by simpa using hi
      have hx:=fun σ=>v_iadr (k:=.i64) (es:=2) (σ:=σ) (map_get (f:=brow) hv) (b_len v)
      refine ⟨trivial,?_⟩
      simp only [B0_r11_Same]
      simp (disch:=omega) only [eqZ,↓gc_len,seval,-List.reduceReplicate,reduceCtorEq,allP,hlt,hx,List.length_map,b_ldq,b_eqR,e_smB]) (fun i s=>rfl) () trivial () (by
    have key:∀ (l:List Bd) (i:Nat),foldE (T:=Empty) (fun _ _ _=>.inl ()) i () l=.inl ():=fun l=>by
      induction l with
      | nil=>intro i;rfl
      | cons a l ih=>intro i;exact ih (i+1)
    exact key l 0)
  have h':loopAt P L0_r11_Same [(0,.p (.lst (l.map brow))),(1,.p (.lst (l.map brow))),(5,.p (.int .i64 0))] [] 26 none=_:=h
  (rw [r_r11_Same (lbY rfl),F_r11_Same];simp (disch:=omega) only [eqZ,↓gc_len,seval,-List.reduceReplicate,reduceCtorEq,allP,k0_r11_Same,h',B0_r11_Same,Int.lt_irrefl,List.length_map])
def fewB (l:List Term):Bool:=(l.all fun t=>decide ((t.deep:Int)≤66∧(t.count:Int)≤40)) && decide (l.length≤6)
def smallB (l:List Term):Bool:=fewB l && (!decide (varsE l=0) || decide (bitsX l≤7))
abbrev e_fw (l:List Term) (i:Int):List (Nat×AV):=[(0,.p (.lst (l.map Term.row))),(3,.p (.int .i64 i))]
def outFw (r:Ex×St):Prop:=r.1=.ret∧r.2.τ.get 2=.p (.bool false)∧r.2.σ=[]
theorem ini_5t {t:Term}:initV σ 5 true (cellsOf 5 true (.p (.agg t.row)))=some (.p (.ptr t.row 0),σ):=by rw [Term.row_eq t];rfl
set_option maxHeartbeats 4000000 in
theorem s_r11_Few (l:List Term) (ht:∀ t∈l,TOk t) (hl:l.length≤9223372036854775807):R P f_r11_Few [.lst (l.map Term.row)]=some (.bool (fewB l)):=by
  have hh:=loop_to (P:=P) (nt:=25) (lv:=[0,3]) (b:=B0_r11_Few) (rd:=none) (as:=l) (fun i (_:Unit)=>e_fw l i) (fun _=>[]) (fun _ _ t=>if decide ((t.deep:Int)≤66∧(t.count:Int)≤40)=true then .inl () else .inr ()) (fun _ r=>outFw r) (fun _ _=>True)
    (fun i t s hv hi _=>by
      refine ⟨fun _ _=>trivial,?_⟩
      have hlt:((i:Int)<l.length)=True:=by simpa using hi
      have hx:=fun σ=>v_iadr (k:=.i64) (es:=5) (σ:=σ) (map_get (f:=Term.row) hv) t.row_len
      have hr:=s_r06_Light t (ht t (List.mem_of_getElem? hv)) 66 40 (by decide) (by decide)
      unfold lightV at hr
      by_cases c:(t.deep:Int)≤66∧(t.count:Int)≤40
      · rw [if_pos c] at hr
        simp only [B0_r11_Few,decide_eq_true c,if_true]
        simp (disch:=omega) only [eqZ,↓gc_len,seval,-List.reduceReplicate,reduceCtorEq,allP,hlt,hx,List.length_map,q_r06_Light,hr,ini_5t,e_fw]
      · rw [if_neg c] at hr
        simp only [B0_r11_Few,decide_eq_false c,Bool.false_eq_true,if_false]
        simp (disch:=omega) only [eqZ,↓gc_len,seval,-List.reduceReplicate,reduceCtorEq,allP,hlt,hx,List.length_map,q_r06_Light,hr,ini_5t,e_fw,outFw]) (fun i s=>rfl) () trivial
  rw [fold_allR] at hh
  unfold fewB
  cases hb:l.all fun t=>decide ((t.deep:Int)≤66∧(t.count:Int)≤40) with
  | true=>
    rw [hb,if_pos rfl] at hh
    have h':loopAt P L0_r11_Few [(0,.p (.lst (l.map Term.row))),(3,.p (.int .i64 0))] [] 25 none=_:=hh.2
    have hd:decide (l.length≤6)=decide ((l.length:Int)≤6):=by
      apply decide_eq_decide.2;omega
    rw [Bool.true_and,hd]
    (rw [r_r11_Few (lbY rfl),F_r11_Few];simp (disch:=omega) only [eqZ,↓gc_len,seval,-List.reduceReplicate,reduceCtorEq,allP,k0_r11_Few,h',B0_r11_Few,Int.lt_irrefl,List.length_map])
  | false=>
    rw [hb,if_neg (by simp)] at hh
    obtain ⟨⟨e',τ',σ',nt',rd'⟩,g1,g2,g3,g4⟩:=hh
    simp only at g2 g3 g4
    subst g2
    have h':loopAt P L0_r11_Few [(0,.p (.lst (l.map Term.row))),(3,.p (.int .i64 0))] [] 25 none=_:=g1
    rw [Bool.false_and]
    (rw [r_r11_Few (lbY rfl),F_r11_Few];simp (disch:=omega) only [eqZ,↓gc_len,seval,-List.reduceReplicate,reduceCtorEq,allP,k0_r11_Few,h',g3,g4])
theorem few_all {l:List Term} (h:fewB l=true):(∀ t∈l,t.deep≤66∧t.count≤40)∧l.length≤6:=by
  unfold fewB at h
  rw [Bool.and_eq_true,List.all_eq_true] at h
  refine ⟨fun t ht=>?_,of_decide_eq_true h.2⟩
  have:=of_decide_eq_true (h.1 t ht)
  omega
set_option maxHeartbeats 4000000 in
theorem s_r11_Small (l:List Term) (ht:∀ t∈l,TOk t) (hl:l.length≤9223372036854775807):R P f_r11_Small [.lst (l.map Term.row)]=some (.bool (smallB l)):=by
  have hf:=s_r11_Few l ht hl
  unfold smallB
  cases hb:fewB l with
  | false=>
    rw [hb] at hf
    (rw [r_r11_Small (lbY rfl),F_r11_Small];simp (disch:=omega) only [eqZ,↓gc_len,seval,-List.reduceReplicate,reduceCtorEq,allP,q_r11_Few,hf])
    rfl
  | true=>
    rw [hb] at hf
    obtain ⟨h1,h2⟩:=few_all hb
    have hV:=s_r11_Vars l (fun t h=>⟨ht t h,by have:=(h1 t h).2;omega⟩) (by omega)
    rcases Classical.propComplete (varsE l=0) with c0 | c0
    rotate_left
    · generalize varsE l=ee at *
      generalize varsR l=vv at *
      (rw [r_r11_Small (lbY rfl),F_r11_Small];simp (disch:=omega) only [eqZ,↓gc_len,seval,-List.reduceReplicate,reduceCtorEq,allP,q_r11_Few,hf,q_r11_Vars,hV,c0])
      rfl
    · have hg:=good_of (of_eq_true c0)
      have hR:varsR l=varsX l:=by unfold varsR;rw [if_pos (of_eq_true c0)]
      rw [of_eq_true c0,hR] at hV
      have hbits:=r_BitsX (varsX l) hg.ok (by have:=hg.len;omega)
      rw [hg.bitsV] at hbits
      have hd:decide (bitsX l≤7)=decide ((bitsX l:Int)≤7):=by apply decide_eq_decide.2;omega
      rw [of_eq_true c0,hd]
      generalize varsX l=vv at *
      generalize bitsX l=bb at *
      (rw [r_r11_Small (lbY rfl),F_r11_Small];simp (disch:=omega) only [eqZ,↓gc_len,seval,-List.reduceReplicate,reduceCtorEq,allP,q_r11_Few,hf,q_r11_Vars,hV,q_r08_Bits,hbits])
      rfl
end Go.AE.S
