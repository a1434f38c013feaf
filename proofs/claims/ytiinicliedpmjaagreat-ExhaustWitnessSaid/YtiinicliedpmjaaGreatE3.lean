import Derived.Test.YtiinicliedpmjaaGreatE2
import Derived.Test.YtiinicliedpmjaaGreatD4
namespace Go.AE.S
open Go Go.AE
set_option linter.unusedSimpArgs false
set_option linter.unusedVariables false
variable {τ:Tm} {σ:Store} {rd:Option Nat}
def notOne (t:Term):Bool:=!decide (t.w=1)
theorem s_Valid1 (t:Term):R P f_exhaust_Valid_1 [.agg t.row]=some (.bool (notOne t)):=by
  unfold notOne
  (rw [r_exhaust_Valid_1 (lbY rfl),F_exhaust_Valid_1];simp (disch:=omega) only [eqZ,↓gc_len,seval,-List.reduceReplicate,reduceCtorEq,allP])
abbrev e_ixT (l:List Term) (i:Int):List (Nat×AV):=[(0,.p (.lst (l.map Term.row))),(1,.p (.fn f_exhaust_Valid_1 [])),(7,.p (.int .i64 l.length)),(8,.p (.int .i64 i))]
set_option maxHeartbeats 4000000 in
theorem s_ContainsT (l:List Term) (hl:l.length≤1000000):R P f_slices_ContainsFunc_api_Term_api_Term [.lst (l.map Term.row),.fn f_exhaust_Valid_1 []]=some (.bool (l.any notOne)):=by
  have h:=loop_to (P:=P) (nt:=19) (lv:=[0,1,7,8]) (b:=B0_slices_IndexFunc_api_Term_api_Term) (rd:=none) (as:=l) (fun i (_:Unit)=>e_ixT l i) (fun _=>[]) (fun i _ v=>if notOne v=true then .inr i else .inl ()) (fun (n:Nat)=>ret1 4 (.int .i64 n) []) (fun _ _=>True)
    (fun i v s hv hi hs=>by
      refine ⟨fun _ _=>trivial,?_⟩
      have hlt:((i:Int)<l.length)=True:=by simpa using hi
      have hr:=s_Valid1 v
      have hx:=fun σ=>v_iadr (k:=.i64) (es:=5) (σ:=σ) (map_get (f:=Term.row) hv) v.row_len
      cases h1:notOne v with
      | true=>
        rw [h1] at hr
        simp only [B0_slices_IndexFunc_api_Term_api_Term,if_true]
        simp (disch:=omega) only [eqZ,↓gc_len,seval,-List.reduceReplicate,reduceCtorEq,allP,hlt,hx,q_exhaust_Valid_1,hr,e_ixT,ret1]
      | false=>
        rw [h1] at hr
        simp only [B0_slices_IndexFunc_api_Term_api_Term,Bool.false_eq_true,if_false]
        simp (disch:=omega) only [eqZ,↓gc_len,seval,-List.reduceReplicate,reduceCtorEq,allP,hlt,hx,q_exhaust_Valid_1,hr,e_ixT,ret1]) (fun i s=>rfl) () trivial
  rcases fold_find notOne l 0 with ⟨n,h1,h2⟩ | ⟨h1,h2⟩
  · rw [h1] at h
    obtain ⟨⟨e',τ',σ',nt',rd'⟩,g1,g2,g3,g4⟩:=h
    simp only at g2 g3 g4
    subst g2;subst g4
    have h':loopAt P L0_slices_IndexFunc_api_Term_api_Term (e_ixT l 0) [] 19 none=some (.ret,⟨τ',[],nt',rd'⟩):=g1
    simp only [e_ixT] at h'
    have hi:R P f_slices_IndexFunc_api_Term_api_Term [.lst (l.map Term.row),.fn f_exhaust_Valid_1 []]=some (.int .i64 n):=by
      (rw [r_slices_IndexFunc_api_Term_api_Term (lbY rfl),F_slices_IndexFunc_api_Term_api_Term];simp (disch:=omega) only [eqZ,↓gc_len,seval,-List.reduceReplicate,reduceCtorEq,allP,List.length_map,k0_slices_IndexFunc_api_Term_api_Term,h',g3])
    have hn:((n:Int) ≥ 0)=True:=by simp
    rw [h2]
    (rw [r_slices_ContainsFunc_api_Term_api_Term (lbY rfl),F_slices_ContainsFunc_api_Term_api_Term];simp (disch:=omega) only [eqZ,↓gc_len,seval,-List.reduceReplicate,reduceCtorEq,allP,q_slices_IndexFunc_api_Term_api_Term,hi,hn])
  · rw [h1] at h
    obtain ⟨_,h⟩:=h
    have h':loopAt P L0_slices_IndexFunc_api_Term_api_Term (e_ixT l 0) [] 19 none=_:=h
    simp only [e_ixT] at h'
    have hi:R P f_slices_IndexFunc_api_Term_api_Term [.lst (l.map Term.row),.fn f_exhaust_Valid_1 []]=some (.int .i64 (-1)):=by
      (rw [r_slices_IndexFunc_api_Term_api_Term (lbY rfl),F_slices_IndexFunc_api_Term_api_Term];simp (disch:=omega) only [eqZ,↓gc_len,seval,-List.reduceReplicate,reduceCtorEq,allP,List.length_map,k0_slices_IndexFunc_api_Term_api_Term,h',B0_slices_IndexFunc_api_Term_api_Term,Int.lt_irrefl])
    rw [h2]
    (rw [r_slices_ContainsFunc_api_Term_api_Term (lbY rfl),F_slices_ContainsFunc_api_Term_api_Term];simp (disch:=omega) only [eqZ,↓gc_len,seval,-List.reduceReplicate,reduceCtorEq,allP,q_slices_IndexFunc_api_Term_api_Term,hi])
def allOne (k:Nat) (S:List (List Nat)):Bool:=S.all fun x=>decide (x.getD k 0=1)
abbrev e_vX1 (V:List (List Nat)) (n k:Int) (c:AV) (S:List (List Nat)) (i:Int):List (Nat×AV):=[(6,.ptr 0 1 0 0),(7,.ptr 2 1 0 0),(8,.ptr 3 1 0 0),(12,.p (.ptr [.lst (V.map lrw)] 0)),(13,.p (.ptr [.int .i64 n] 0)),(14,.p (.int .i64 k)),(15,c),(52,.p (.lst (S.map lrw))),(53,.p (.int .i64 S.length)),(54,.p (.int .i64 i))]
theorem fold_allOne (k:Nat):∀ (S:List (List Nat)) (i:Nat),foldE (S:=Unit) (T:=Unit) (fun _ _ (x:List Nat)=>if x.getD k 0=1 then .inl () else .inr ()) i () S=if allOne k S=true then .inl () else .inr ()
  | [],i=>rfl
  | x :: S,i=>by
    rw [foldE]
    by_cases h:x.getD k 0=1
    · rw [if_pos h]
      simp only
      rw [fold_allOne k S (i+1)]
      simp only [allOne,List.all_cons,decide_eq_true h,Bool.true_and]
      rfl
    · rw [if_neg h]
      simp only [allOne,List.all_cons,decide_eq_false h,Bool.false_and,Bool.false_eq_true,if_false]
set_option maxHeartbeats 8000000 in
theorem l1_xValid (V:List (List Nat)) (n:Int) (k:Nat) (c:AV) (S:List (List Nat)) (σ:Store) (l:Nat) (hS:∀ x∈S,k<x.length) (hn:S.length≤1000000) (hk:k<65536) :
    if allOne k S=true then loopAt P L1_exhaust_Valid (e_vX1 V n k c S 0) σ 82 (some l)=back P [6,7,8,12,13,14,15,52,53,54] B1_exhaust_Valid σ.length (exec P B1_exhaust_Valid ⟨tm (e_vX1 V n k c S S.length),σ,82,some l⟩)
    else ∃ τ',loopAt P L1_exhaust_Valid (e_vX1 V n k c S 0) σ 82 (some l)=some (.exit 1,⟨τ',σ,82,some l⟩):=by
  have h:=loop_to (P:=P) (nt:=82) (lv:=[6,7,8,12,13,14,15,52,53,54]) (b:=B1_exhaust_Valid) (rd:=some l) (as:=S) (fun i (_:Unit)=>e_vX1 V n k c S i) (fun _=>σ) (fun _ _ (x:List Nat)=>if x.getD k 0=1 then .inl () else .inr ()) (fun (_:Unit) r=>∃ τ',r=(.exit 1,⟨τ',σ,82,some l⟩)) (fun _ _=>True)
    (fun i x s hv hi hs=>by
      refine ⟨fun _ _=>trivial,?_⟩
      have hlt:((i:Int)<S.length)=True:=by simpa using hi
      have hx:=fun σ=>v_iadr (k:=.i64) (es:=1) (σ:=σ) (map_get (f:=lrw) hv) rfl
      have hkl:=hS x (List.mem_of_getElem? hv)
      have hg:x[k]? = some (x.getD k 0):=by
        rw [List.getD_eq_getElem?_getD,List.getElem?_eq_getElem hkl];rfl
      have hy:=fun σ=>v_iadr (k:=.i64) (es:=1) (σ:=σ) (map_get (f:=urow) hg) (by simp [urow])
      generalize x.getD k 0=y at *
      rcases Classical.propComplete (y=1) with c1 | c1
      · have c2:=of_eq_true c1
        subst c2
        simp only [B1_exhaust_Valid,if_true]
        simp (disch:=omega) only [eqZ,↓gc_len,seval,-List.reduceReplicate,reduceCtorEq,allP,hlt,hx,lrw,hy,urow,List.length_map,e_vX1]
      · have c3:(((y:Nat):Int)=1)=False:=by
          simp only [eq_iff_iff,iff_false]
          have:=of_eq_false c1
          omega
        simp only [B1_exhaust_Valid,if_neg (of_eq_false c1)]
        simp (disch:=omega) only [eqZ,↓gc_len,seval,-List.reduceReplicate,reduceCtorEq,allP,hlt,hx,lrw,hy,urow,List.length_map,c3,e_vX1]
        exact ⟨_,rfl⟩) (fun i s=>rfl) () trivial
  rw [fold_allOne] at h
  cases hb:allOne k S with
  | true=>rw [hb,if_pos rfl] at h;rw [if_pos rfl];exact h.2
  | false=>
    rw [hb,if_neg (by simp)] at h
    rw [if_neg (by simp)]
    obtain ⟨r,h1,τ',rfl⟩:=h
    exact ⟨τ',h1⟩
def ceX (V:List (List Nat)) (n k:Nat):Bool:=allOne k (V.take n) && !decide ((V.getD n []).getD k 0=(V.getD (n+1) []).getD k 0)
theorem wide_l (V:List (List Nat)):wide 1 (V.map lrw)=true:=by simp [wide,lrw]
theorem slc_takeL (V:List (List Nat)) (n:Nat) (h:n≤V.length):slcSV 1 (.p (.lst (V.map lrw))) none (some (.p (.int .i64 n))) none=some (.p (.lst ((V.take n).map lrw))):=by
  unfold slcSV
  simp only [wide_l,if_true]
  simp [bounds,boundAt,natOf,h,List.map_take]
theorem gc_77 {vs:List AV} {a b c d e f:Obj}:gc 6 vs [a,b,c,d,e,f]=[a,b,c,d,e,f]:=gc_same' (by simp)
theorem sto_3 {a b c:Obj} {r:Store} {x y:Int}:stO (a :: b :: c :: .pv 1 [[.int .i64 x]] false :: r) 3 1 0 0 [.p (.int .i64 y)] (some (.pv 1 [[.int .i64 x]] false))=some (a :: b :: c :: .pv 1 [[.int .i64 y]] false :: r):=rfl
theorem st_2l {a b:Obj} {r:Store} {v:AV} {x:List (List PV)}:storeV (a :: b :: .av 1 [[v]] false :: r) 1 (.ptr 2 1 0 0) (.p (.lst x))=some (a :: b :: .pv 1 [[.lst x]] false :: r):=rfl
abbrev sVd (r4:List (List PV)) (f4:Bool):Store:=[.pv 1 [[.bool false]] false,.pv 0 [] false,.av 1 [[.sl 1 0]] false,.pv 1 [[.int .i64 0]] false,.pv 5 r4 f4]
abbrev sVo (r4:List (List PV)) (f4:Bool) (x:List (List PV)):Store:=[.pv 1 [[.bool false]] false,.pv 0 [] false,.pv 1 [[.lst x]] false,.pv 1 [[.int .i64 0]] false,.pv 5 r4 f4]
abbrev kVd (V:List (List Nat)) (n:Nat):List (Nat×AV):=[(6,.ptr 0 1 0 0),(7,.ptr 2 1 0 0),(8,.ptr 3 1 0 0),(12,.p (.ptr [.lst (V.map lrw)] 0)),(13,.p (.ptr [.int .i64 (n:Int)] 0))]
set_option maxHeartbeats 16000000 in
theorem rg_Valid (vs:List V2) (hw:∀ v∈vs,1≤v.w∧v.w≤16) (hvl:vs.length≤40) (b:Nat) (hb:b≤16) (V:List (List Nat)) (n:Nat) (hV:V.length=n+2) (hlen:∀ x∈V,x.length=2^b) (hn:n≤1000000) (r4:List (List PV)) (f4:Bool) :
    rangeR P [48,49] A0_exhaust_Valid B0_exhaust_Valid (.p (.fn f_exhaust_assignments_1 [.ptr [.int .i64 (b:Int)] 0,.ptr [.lst (vs.map vrow)] 0])) (kVd V n) (sVd r4 f4) 82 none =
      some (rangeEnd (fun (_:Unit)=>sVd r4 f4) (fun k=>(.ret,sVo r4 f4 ((assignT k vs).map brow))) (foldE (fun _ _ k=>if ceX V n k=true then .inr k else .inl ()) 0 () (List.range (2^b)))):=by
  have hp:(2:Nat)^b≤65536:=Nat.pow_le_pow_right (show 0<2 by omega) hb
  refine range_fold (f0:=f_exhaust_assignments_1) (cap:=[.p (.ptr [.int .i64 (b:Int)] 0),.p (.ptr [.lst (vs.map vrow)] 0)]) rfl p_exhaust_assignments_1 ⟨rfl,rfl⟩ (argK vs) (fun (_:Unit)=>sVd r4 f4) (fun _ _ k=>if ceX V n k=true then .inr k else .inl ()) (fun k=>(.ret,sVo r4 f4 ((assignT k vs).map brow))) (fun _ _=>True) (List.range (2^b)) () rfl
    (fun σ σ' bb h=>⟨_,c_assign1 _ vs b hb σ σ' bb h⟩) (fun _=>rfl) (fun _=>rfl) (fun _=>by simp [AE.Obj.below,below]) (fun _=>by simp [AE.Obj.below,below]) (fun _=>by simp) (fun i k s hk _=>?_) trivial
  refine ⟨fun _ _=>trivial,?_⟩
  have hkr:=List.mem_range.1 (List.mem_of_getElem? hk)
  simp only [sVd,List.cons_append,List.nil_append,argK]
  rw [round_go rfl ⟨rfl,rfl,rfl⟩]
  have hVn:n<V.length:=by omega
  have hVn1:n+1<V.length:=by omega
  have hgn:V[n]? = some (V.getD n []):=by rw [List.getD_eq_getElem?_getD,List.getElem?_eq_getElem hVn];rfl
  have hgn1:V[n+1]? = some (V.getD (n+1) []):=by rw [List.getD_eq_getElem?_getD,List.getElem?_eq_getElem hVn1];rfl
  have hln:=hlen _ (List.mem_of_getElem? hgn)
  have hln1:=hlen _ (List.mem_of_getElem? hgn1)
  have hxn:=fun σ=>v_iadr (k:=.i64) (es:=1) (σ:=σ) (map_get (f:=lrw) hgn) rfl
  have hxn1:=fun σ=>v_iadr (k:=.i64) (es:=1) (σ:=σ) (map_get (f:=lrw) hgn1) rfl
  have gg:∀ x:List Nat,x.length=2^b→x[k]? = some (x.getD k 0):=fun x hx=>by
    rw [List.getD_eq_getElem?_getD,List.getElem?_eq_getElem (by omega)];rfl
  have hya:=fun σ=>v_iadr (k:=.i64) (es:=1) (σ:=σ) (map_get (f:=urow) (gg _ hln)) (by simp [urow])
  have hyb:=fun σ=>v_iadr (k:=.i64) (es:=1) (σ:=σ) (map_get (f:=urow) (gg _ hln1)) (by simp [urow])
  have hsl:=slc_takeL V n (by omega)
  have hwr:IntKind.i64.wrap ((n:Int)+1)=((n+1:Nat):Int):=IntWalk.i64_in _ (by omega)
  have henv:=s_env vs hw hvl k (by omega)
  have hl1:=fun (σ:Store) (c:AV)=>l1_xValid V n k c (V.take n) σ 5 (fun x hx=>by rw [hlen x (List.mem_of_mem_take hx)];exact hkr) (by rw [List.length_take];omega) (by omega)
  simp only [e_vX1] at hl1
  have htl:(V.take n).length=n:=by rw [List.length_take];omega
  unfold ceX
  generalize (V.getD n []).getD k 0=ya at *
  generalize (V.getD (n+1) []).getD k 0=yb at *
  generalize V.getD n []=xa at *
  generalize V.getD (n+1) []=xb at *
  cases hone:allOne k (V.take n) with
  | false=>
    simp only [hone,Bool.false_eq_true,if_false] at hl1
    simp only [Bool.false_and,Bool.false_eq_true,if_false]
    obtain ⟨τ',hl1⟩:=hl1 (sVd r4 f4++[.loop (kVd V n) 82 [48,49] A0_exhaust_Valid B0_exhaust_Valid (some .normal)]) (.p (.fn f_exhaust_assignments_1_1 [.ptr [.int .i64 (k:Int)] 0,.ptr [.lst (vs.map vrow)] 0]))
    rw [htl] at hl1
    simp only [sVd,List.cons_append,List.nil_append] at hl1
    simp only [A0_exhaust_Valid,B0_exhaust_Valid] at hl1 ⊢
    simp (disch:=omega) only [eqZ,↓gc_len,seval,-List.reduceReplicate,reduceCtorEq,allP,hsl,List.length_map,htl,k1_exhaust_Valid,gc_77,sto_3,st_2l,hl1]
  | true=>
    simp only [hone,if_true] at hl1
    simp only [Bool.true_and]
    have hl1:=hl1 (sVd r4 f4++[.loop (kVd V n) 82 [48,49] A0_exhaust_Valid B0_exhaust_Valid (some .normal)]) (.p (.fn f_exhaust_assignments_1_1 [.ptr [.int .i64 (k:Int)] 0,.ptr [.lst (vs.map vrow)] 0]))
    rw [htl] at hl1
    simp only [sVd,List.cons_append,List.nil_append] at hl1
    rcases Classical.propComplete (ya=yb) with c | c
    · simp only [decide_eq_true (of_eq_true c),Bool.not_true,Bool.false_eq_true,if_false]
      have c2:(((ya:Nat):Int)=((yb:Nat):Int))=True:=by simp [of_eq_true c]
      simp only [A0_exhaust_Valid,B0_exhaust_Valid] at hl1 ⊢
      simp (disch:=omega) only [eqZ,↓gc_len,seval,-List.reduceReplicate,reduceCtorEq,allP,hsl,List.length_map,htl,k1_exhaust_Valid,gc_77,sto_3,st_2l,hl1,B1_exhaust_Valid,Int.lt_irrefl,hxn,hxn1,lrw,hya,hyb,urow,hwr,c2]
    · simp only [decide_eq_false (of_eq_false c),Bool.not_false,if_true]
      have c2:(((ya:Nat):Int)=((yb:Nat):Int))=False:=by
        simp only [eq_iff_iff,iff_false]
        have:=of_eq_false c
        omega
      simp only [A0_exhaust_Valid,B0_exhaust_Valid] at hl1 ⊢
      simp (disch:=omega) only [eqZ,↓gc_len,seval,-List.reduceReplicate,reduceCtorEq,allP,hsl,List.length_map,htl,k1_exhaust_Valid,gc_77,sto_3,st_2l,hl1,B1_exhaust_Valid,Int.lt_irrefl,hxn,hxn1,lrw,hya,hyb,urow,hwr,c2,q_exhaust_assignments_1_1,henv]
def eqW (hs:List Term) (a b:Term):List Term:=hs++[a,b]
def valE (hs:List Term) (a b:Term):Int:=if varsE (eqW hs a b)≠0 then varsE (eqW hs a b) else if a.w=b.w∧hs.any notOne=false then 0 else 3
def tabsX (hs:List Term) (a b:Term):List (List Nat):=(eqW hs a b).map (tvX (eqW hs a b))
def valX (hs:List Term) (a b:Term):Option Nat:=if valE hs a b=0 then (List.range (2^bitsX (eqW hs a b))).find? (ceX (tabsX hs a b) hs.length) else none
def valB (hs:List Term) (a b:Term):Bool:=decide (valE hs a b=0) && (valX hs a b).isNone
def valA (hs:List Term) (a b:Term):List Bd:=match valX hs a b with
  | some k=>assignT k (varsX (eqW hs a b))
  | none=>[]
theorem clone_c {rows:List (List PV)} (h1:rows.length≤2000000000) (h2:(rows.all fun r=>r.length == 5)=true):primClone [.p (.lst rows)] σ=some (.sl σ.length rows.length,σ++[.pv 5 rows false]):=by
  unfold primClone
  exact if_pos ⟨by omega,h2⟩
theorem fold_fndN (p:Nat→Bool):∀ (l:List Nat) (i:Nat),foldE (S:=Unit) (T:=Nat) (fun _ _ k=>if p k=true then .inr k else .inl ()) i () l=match l.find? p with | some k=>.inr k | none=>.inl ()
  | [],_=>rfl
  | a :: l,i=>by
    unfold foldE
    cases h:p a with
    | true=>simp [h]
    | false=>simp only [Bool.false_eq_true,if_false,List.find?_cons,h];exact fold_fndN p l (i+1)
theorem frz_v {x:PV} {o1 o2 o3 o4:Obj} {rows:List (List PV)} {n:Nat} {f:Bool}:(if x.flat=true then [o1,o2,o3,o4,.pv 5 rows f] else freezeAll [o1,o2,o3,o4,.pv 5 rows f] (refs [o1,o2,o3,o4,.pv 5 rows f] 12 (.sl 4 n)))=[o1,o2,o3,o4,.pv 5 rows (f || !x.flat)]:=by
  cases h:x.flat<;>simp [freezeAll,freezeAt,refs]
theorem app_va {o1 o2 o3 o4:Obj} {rs:List (List PV)} {n:Nat} {a b:Term} (hn:rs.length=n) (hl:n≤90):appendV [o1,o2,o3,o4,.pv 5 rs false] 5 64 (.sl 4 n) (some (.inl [a.row,b.row]))=some (.sl 4 (n+2),[o1,o2,o3,o4,.pv 5 (rs++[a.row,b.row]) false]) :=
  v_append (σ:=[o1,o2,o3,o4,.pv 5 rs false]) (b:=4) (n:=n) (e:=5) (es:=5) (bytes:=64) (rows:=rs) (new:=[a.row,b.row]) rfl hn (.inl rfl) (by simp only [List.length_cons,List.length_nil];omega)
theorem src_r2 {a b:Term}:srcOf σ 5 (.p (.lst [a.row,b.row]))=some (.inl [a.row,b.row]):=src_p (by simp [wide,Term.row_len])
set_option maxHeartbeats 8000000 in
theorem s_exhaust_Valid (hs:List Term) (a b:Term) (ht:∀ t∈eqW hs a b,TOk t∧t.count≤10000) (hl:hs.length≤90):R P f_exhaust_Valid [.lst (hs.map Term.row),.agg a.row,.agg b.row]=some (.tup [.bool (valB hs a b),.lst ((valA hs a b).map brow),.int .i64 (valE hs a b)]):=by
  have ht6:∀ t∈eqW hs a b,TOk t∧t.count≤1000000:=fun t h=>⟨(ht t h).1,by have:=(ht t h).2;omega⟩
  have hll:(eqW hs a b).length=hs.length+2:=by simp [eqW]
  have hV:=s_exhaust_Vars (eqW hs a b) ht6 (by omega)
  have hrow:(eqW hs a b).map Term.row=hs.map Term.row++[a.row,b.row]:=by simp [eqW]
  have hcl:=fun (σ:Store)=>clone_c (σ:=σ) (rows:=hs.map Term.row) (by simp only [List.length_map];omega) (by simp [Term.row_len])
  have hsz:(hs.map Term.row).length=hs.length:=List.length_map ..
  have hap:=fun (o1 o2 o3 o4:Obj)=>app_va (o1:=o1) (o2:=o2) (o3:=o3) (o4:=o4) (a:=a) (b:=b) hsz hl
  have hcn:=s_ContainsT hs (by omega)
  have hP:∀ (k:Nat) (o1 o2 o3 o4:Obj) (f:Bool),purify [o1,o2,o3,o4,.pv 5 (hs.map Term.row++[a.row,b.row]) f] (k+1) (.sl 4 (hs.length+2))=some (.lst (hs.map Term.row++[a.row,b.row])):=fun k o1 o2 o3 o4 f=>by simp [purify]
  rcases Classical.propComplete (varsE (eqW hs a b)=0) with c0 | c0
  rotate_left
  · have c0':=of_eq_false c0
    have hE:valE hs a b=varsE (eqW hs a b):=by unfold valE;rw [if_pos c0']
    have hX:valX hs a b=none:=by unfold valX;rw [if_neg (by rw [hE];exact c0')]
    have hB:valB hs a b=false:=by unfold valB;rw [hE,decide_eq_false c0'];rfl
    have hA:valA hs a b=[]:=by unfold valA;rw [hX]
    rw [hE,hB,hA]
    rw [hrow] at hV
    generalize varsE (eqW hs a b)=ee at *
    generalize varsR (eqW hs a b)=vv at *
    generalize hs.map Term.row=rs at *
    (rw [r_exhaust_Valid (lbY rfl),F_exhaust_Valid];simp (disch:=omega) only [eqZ,↓gc_len,seval,-List.reduceReplicate,reduceCtorEq,allP,q_slices_Clone_api_Term_api_Term,hcl,hsz,blist_2t,src_r2,hap,regD_go,regD_some,regOk,apartOk,pureRead,blkOf,noNils,Bool.true_or,Bool.or_true,Bool.and_self,if_true,q_exhaust_Vars,hV,c0,hP,frz_v,sto_3])
    rfl
  · have hg:=good_of (of_eq_true c0)
    have hR:varsR (eqW hs a b)=varsX (eqW hs a b):=by unfold varsR;rw [if_pos (of_eq_true c0)]
    rw [hrow,of_eq_true c0,hR] at hV
    by_cases cw:a.w=b.w∧hs.any notOne=false
    rotate_left
    · have hE:valE hs a b=3:=by unfold valE;rw [if_neg (by simpa using of_eq_true c0),if_neg cw]
      have hX:valX hs a b=none:=by unfold valX;rw [if_neg (by rw [hE];decide)]
      have hB:valB hs a b=false:=by unfold valB;rw [hE];rfl
      have hA:valA hs a b=[]:=by unfold valA;rw [hX]
      rw [hE,hB,hA]
      generalize varsX (eqW hs a b)=vv at *
      generalize hs.map Term.row=rs at *
      rcases Classical.propComplete (a.w=b.w) with c1 | c1
      · have c2:hs.any notOne=true:=by
          cases h:hs.any notOne with
          | true=>rfl
          | false=>exact absurd ⟨of_eq_true c1,h⟩ cw
        rw [c2] at hcn
        (rw [r_exhaust_Valid (lbY rfl),F_exhaust_Valid];simp (disch:=omega) only [eqZ,↓gc_len,seval,-List.reduceReplicate,reduceCtorEq,allP,q_slices_Clone_api_Term_api_Term,hcl,hsz,blist_2t,src_r2,hap,regD_go,regD_some,regOk,apartOk,pureRead,blkOf,noNils,Bool.true_or,Bool.or_true,Bool.and_self,if_true,q_exhaust_Vars,hV,hP,frz_v,sto_3,c1,q_slices_ContainsFunc_api_Term_api_Term,hcn])
        rfl
      · (rw [r_exhaust_Valid (lbY rfl),F_exhaust_Valid];simp (disch:=omega) only [eqZ,↓gc_len,seval,-List.reduceReplicate,reduceCtorEq,allP,q_slices_Clone_api_Term_api_Term,hcl,hsz,blist_2t,src_r2,hap,regD_go,regD_some,regOk,apartOk,pureRead,blkOf,noNils,Bool.true_or,Bool.or_true,Bool.and_self,if_true,q_exhaust_Vars,hV,hP,frz_v,sto_3,c1])
        rfl
    · have hE:valE hs a b=0:=by unfold valE;rw [if_neg (by simpa using of_eq_true c0),if_pos cw]
      have hVl:(tabsX hs a b).length=hs.length+2:=by unfold tabsX;rw [List.length_map,hll]
      have hlen:∀ x∈tabsX hs a b,x.length=2^bitsX (eqW hs a b):=by
        intro x hx
        unfold tabsX at hx
        obtain ⟨t,_,rfl⟩:=List.mem_map.1 hx
        simp [tvX,tabV]
      have hrg:=fun f4=>rg_Valid (varsX (eqW hs a b)) hg.w16 (by have:=hg.len;omega) (bitsX (eqW hs a b)) hg.bits16 (tabsX hs a b) hs.length hVl hlen (by omega) ((eqW hs a b).map Term.row) f4
      have htb:=s_tables (eqW hs a b) hg ht6 (eqW hs a b) (fun _ h=>h) (by omega)
      have has:=s_assignments (varsX (eqW hs a b)) hg.ok (by have:=hg.len;omega)
      rw [hg.sum] at has
      rw [fold_fndN] at hrg
      rw [cw.2] at hcn
      have c1:(a.w=b.w)=True:=eq_true cw.1
      have hX:valX hs a b=(List.range (2^bitsX (eqW hs a b))).find? (ceX (tabsX hs a b) hs.length):=by unfold valX;rw [if_pos hE]
      rw [← hX] at hrg
      rw [hE]
      unfold valB valA
      rw [hE]
      show R P f_exhaust_Valid _=some (.tup [.bool (decide ((0:Int)=0) && (valX hs a b).isNone),_,_])
      have htb':R P f_exhaust_tables [.lst ((varsX (eqW hs a b)).map vrow),.lst ((eqW hs a b).map Term.row)]=some (.lst ((tabsX hs a b).map lrw)):=htb
      rw [hrow] at htb' hrg
      generalize valX hs a b=vX at *
      generalize tabsX hs a b=V at *
      generalize varsX (eqW hs a b)=vv at *
      generalize bitsX (eqW hs a b)=bb at *
      generalize hs.map Term.row=rs at *
      cases vX with
      | none=>
        simp only [rangeEnd] at hrg
        (rw [r_exhaust_Valid (lbY rfl),F_exhaust_Valid];simp (disch:=omega) only [eqZ,↓gc_len,seval,-List.reduceReplicate,reduceCtorEq,allP,q_slices_Clone_api_Term_api_Term,hcl,hsz,blist_2t,src_r2,hap,regD_go,regD_some,regOk,apartOk,pureRead,blkOf,noNils,Bool.true_or,Bool.or_true,Bool.and_self,if_true,q_exhaust_Vars,hV,hP,frz_v,sto_3,c1,q_slices_ContainsFunc_api_Term_api_Term,hcn,q_exhaust_tables,htb',q_exhaust_assignments,has,kR0_exhaust_Valid,hrg])
        rfl
      | some k=>
        simp only [rangeEnd] at hrg
        (rw [r_exhaust_Valid (lbY rfl),F_exhaust_Valid];simp (disch:=omega) only [eqZ,↓gc_len,seval,-List.reduceReplicate,reduceCtorEq,allP,q_slices_Clone_api_Term_api_Term,hcl,hsz,blist_2t,src_r2,hap,regD_go,regD_some,regOk,apartOk,pureRead,blkOf,noNils,Bool.true_or,Bool.or_true,Bool.and_self,if_true,q_exhaust_Vars,hV,hP,frz_v,sto_3,c1,q_slices_ContainsFunc_api_Term_api_Term,hcn,q_exhaust_tables,htb',q_exhaust_assignments,has,kR0_exhaust_Valid,hrg])
        rfl
theorem s_exhaust_Equal (a b:Term) (ha:TOk a∧a.count≤10000) (hb:TOk b∧b.count≤10000):R P f_exhaust_Equal [.agg a.row,.agg b.row]=some (.tup [.bool (valB [] a b),.lst ((valA [] a b).map brow),.int .i64 (valE [] a b)]):=by
  have h:=s_exhaust_Valid [] a b (fun t h=>by rcases List.mem_cons.1 h with rfl | h;exact ha;rw [List.mem_singleton.1 h];exact hb) (by simp)
  rw [List.map_nil] at h
  (rw [r_exhaust_Equal (lbY rfl),F_exhaust_Equal];simp (disch:=omega) only [eqZ,↓gc_len,seval,-List.reduceReplicate,reduceCtorEq,allP,q_exhaust_Valid,h])
def conE (t:Term):Int:=if varsE [t]≠0 then varsE [t] else if t.w=1 then 0 else 3
def conV (t:Term):List V2:=if conE t=0 then varsX [t] else []
def conT (t:Term):List Nat:=if conE t=0 then tvX [t] t else []
theorem bsl_1t {a:Term}:bsliceV σ 5 1 (fillP (List.replicate 1 [.p (.int .i64 0),.p (.int .i64 0),.p (.int .u64 0),.p (.str (bs [])),.nils]).flatten [(0,5,.p (.agg a.row))])=some (.sl σ.length 1,σ++[.pv 5 [a.row] false]):=by rw [Term.row_eq a];rfl
theorem pur_v0 (k:Nat) (rows:List PV) (f:Bool):purify [.pv 5 [rows] f] (k+1) (.sl 0 1)=some (.lst [rows]):=by simp [purify]
theorem pur_v1 (k:Nat) (o:Obj) (rows:List PV) (f:Bool):purify [o,.pv 5 [rows] f] (k+1) (.sl 1 1)=some (.lst [rows]):=by simp [purify]
theorem frz_v0 {x:PV} {rows:List (List PV)} {n:Nat} {f:Bool}:(if x.flat=true then [.pv 5 rows f] else freezeAll [.pv 5 rows f] (refs [.pv 5 rows f] 12 (.sl 0 n)))=[.pv 5 rows (f || !x.flat)]:=by
  cases h:x.flat<;>simp [freezeAll,freezeAt,refs]
set_option maxHeartbeats 4000000 in
theorem s_exhaust_condition (t:Term) (ht:TOk t∧t.count≤10000):R P f_exhaust_condition [.agg t.row]=some (.tup [.lst ((conV t).map vrow),.lst ((conT t).map urow),.int .i64 (conE t)]):=by
  have ht6:∀ u∈[t],TOk u∧u.count≤1000000:=fun u h=>by rw [List.mem_singleton.1 h];exact ⟨ht.1,by have:=ht.2;omega⟩
  have hV:=s_exhaust_Vars [t] ht6 (by simp)
  simp only [List.map_cons,List.map_nil] at hV
  rcases Classical.propComplete (varsE [t]=0) with c0 | c0
  rotate_left
  · have c0':=of_eq_false c0
    have hE:conE t=varsE [t]:=by unfold conE;rw [if_pos c0']
    have hC:conV t=[]:=by unfold conV;rw [hE,if_neg c0']
    have hT:conT t=[]:=by unfold conT;rw [hE,if_neg c0']
    rw [hE,hC,hT]
    generalize varsE [t]=ee at *
    generalize varsR [t]=vv at *
    (rw [r_exhaust_condition (lbY rfl),F_exhaust_condition];simp (disch:=omega) only [eqZ,↓gc_len,seval,-List.reduceReplicate,reduceCtorEq,allP,bsl_1t,q_exhaust_Vars,hV,pur_v0,frz_v0,c0])
  · have hg:=good_of (of_eq_true c0)
    have hR:varsR [t]=varsX [t]:=by unfold varsR;rw [if_pos (of_eq_true c0)]
    rw [of_eq_true c0,hR] at hV
    have htb:=s_tables [t] hg ht6 [t] (fun _ h=>h) (by simp)
    simp only [List.map_cons,List.map_nil] at htb
    rcases Classical.propComplete (t.w=1) with c1 | c1
    · have hE:conE t=0:=by unfold conE;rw [if_neg (by simpa using of_eq_true c0),if_pos (of_eq_true c1)]
      have hC:conV t=varsX [t]:=by unfold conV;rw [hE,if_pos rfl]
      have hT:conT t=tvX [t] t:=by unfold conT;rw [hE,if_pos rfl]
      rw [hE,hC,hT]
      generalize tvX [t] t=tv at *
      have hx0:∀ σ,iadrSV σ 1 (.p (.lst [[.lst (tv.map urow)]])) (.p (.int .i64 0))=some (.p (.ptr [.lst (tv.map urow)] 0)):=fun σ=>v_iadr (k:=.i64) (es:=1) (i:=0) rfl rfl
      generalize varsX [t]=vv at *
      (rw [r_exhaust_condition (lbY rfl),F_exhaust_condition];simp (disch:=omega) only [eqZ,↓gc_len,seval,-List.reduceReplicate,reduceCtorEq,allP,bsl_1t,q_exhaust_Vars,hV,pur_v0,pur_v1,frz_v0,c1,q_exhaust_tables,htb,lrw,hx0])
    · have hE:conE t=3:=by unfold conE;rw [if_neg (by simpa using of_eq_true c0),if_neg (of_eq_false c1)]
      have hC:conV t=[]:=by unfold conV;rw [hE,if_neg (by decide)]
      have hT:conT t=[]:=by unfold conT;rw [hE,if_neg (by decide)]
      rw [hE,hC,hT]
      generalize varsX [t]=vv at *
      (rw [r_exhaust_condition (lbY rfl),F_exhaust_condition];simp (disch:=omega) only [eqZ,↓gc_len,seval,-List.reduceReplicate,reduceCtorEq,allP,bsl_1t,q_exhaust_Vars,hV,pur_v0,frz_v0,c1])
def isOne (x:List Nat) (k:Nat):Bool:=decide (x.getD k 0=1)
abbrev sSt (x:List Nat):Store:=[.pv 1 [[.bool false]] false,.pv 0 [] false,.av 1 [[.sl 1 0]] false,.pv 1 [[.int .i64 0]] false,.pv 0 [] false,.pv 1 [[.lst (x.map urow)]] false]
abbrev sSo (x:List Nat) (w:List (List PV)):Store:=[.pv 1 [[.bool true]] false,.pv 0 [] false,.pv 1 [[.lst w]] false,.pv 1 [[.int .i64 0]] false,.pv 0 [] false,.pv 1 [[.lst (x.map urow)]] false]
abbrev kSt:List (Nat×AV):=[(2,.ptr 0 1 0 0),(3,.ptr 2 1 0 0),(4,.ptr 3 1 0 0),(6,.ptr 5 1 0 0)]
theorem ldo_l {l:List (List PV)} {f:Bool}:ldO 1 0 0 1 false (some (.pv 1 [[.lst l]] f))=some (.p (.lst l)):=rfl
theorem gc_s7 {vs:List AV} {a b c d e f g:Obj}:gc 7 vs [a,b,c,d,e,f,g]=[a,b,c,d,e,f,g]:=gc_same' (by simp)
set_option maxHeartbeats 16000000 in
theorem rg_Sat (vs:List V2) (hw:∀ v∈vs,1≤v.w∧v.w≤16) (hvl:vs.length≤40) (b:Nat) (hb:b≤16) (x:List Nat) (hx:x.length=2^b) :
    rangeR P [21,22] A0_exhaust_Sat B0_exhaust_Sat (.p (.fn f_exhaust_assignments_1 [.ptr [.int .i64 (b:Int)] 0,.ptr [.lst (vs.map vrow)] 0])) kSt (sSt x) 30 none =
      some (rangeEnd (fun (_:Unit)=>sSt x) (fun k=>(.ret,sSo x ((assignT k vs).map brow))) (foldE (fun _ _ k=>if isOne x k=true then .inr k else .inl ()) 0 () (List.range (2^b)))):=by
  have hp:(2:Nat)^b≤65536:=Nat.pow_le_pow_right (show 0<2 by omega) hb
  refine range_fold (f0:=f_exhaust_assignments_1) (cap:=[.p (.ptr [.int .i64 (b:Int)] 0),.p (.ptr [.lst (vs.map vrow)] 0)]) rfl p_exhaust_assignments_1 ⟨rfl,rfl⟩ (argK vs) (fun (_:Unit)=>sSt x) (fun _ _ k=>if isOne x k=true then .inr k else .inl ()) (fun k=>(.ret,sSo x ((assignT k vs).map brow))) (fun _ _=>True) (List.range (2^b)) () rfl
    (fun σ σ' bb h=>⟨_,c_assign1 _ vs b hb σ σ' bb h⟩) (fun _=>rfl) (fun _=>rfl) (fun _=>by simp [AE.Obj.below,below]) (fun _=>by simp [AE.Obj.below,below]) (fun _=>by simp) (fun i k s hk _=>?_) trivial
  refine ⟨fun _ _=>trivial,?_⟩
  have hkr:=List.mem_range.1 (List.mem_of_getElem? hk)
  simp only [sSt,List.cons_append,List.nil_append,argK]
  rw [round_go rfl ⟨rfl,rfl,rfl⟩]
  have gg:x[k]? = some (x.getD k 0):=by
    rw [List.getD_eq_getElem?_getD,List.getElem?_eq_getElem (by omega)];rfl
  have hya:=fun σ=>v_iadr (k:=.i64) (es:=1) (σ:=σ) (map_get (f:=urow) gg) (by simp [urow])
  have henv:=s_env vs hw hvl k (by omega)
  unfold isOne
  generalize x.getD k 0=ya at *
  rcases Classical.propComplete (ya=1) with c | c
  · simp only [decide_eq_true (of_eq_true c),if_true]
    have c2:((ya:Nat):Int)=1:=by rw [of_eq_true c];rfl
    simp only [A0_exhaust_Sat,B0_exhaust_Sat]
    simp (disch:=omega) only [eqZ,↓gc_len,seval,-List.reduceReplicate,reduceCtorEq,allP,gc_s7,ldo_l,sto_3,st_2l,hya,urow,c2,q_exhaust_assignments_1_1,henv]
  · simp only [decide_eq_false (of_eq_false c),Bool.false_eq_true,if_false]
    have c2:(((ya:Nat):Int)=1)=False:=by
      simp only [eq_iff_iff,iff_false]
      have:=of_eq_false c
      omega
    simp only [A0_exhaust_Sat,B0_exhaust_Sat]
    simp (disch:=omega) only [eqZ,↓gc_len,seval,-List.reduceReplicate,reduceCtorEq,allP,gc_s7,ldo_l,sto_3,st_2l,hya,urow,c2]
theorem st_5l {a b c d e:Obj} {r:Store} {v:AV} {x:List (List PV)}:storeV (a :: b :: c :: d :: e :: .av 1 [[v]] false :: r) 1 (.ptr 5 1 0 0) (.p (.lst x))=some (a :: b :: c :: d :: e :: .pv 1 [[.lst x]] false :: r):=rfl
def satX (t:Term):Option Nat:=if conE t=0 then (List.range (2^bitsX [t])).find? (isOne (tvX [t] t)) else none
def satA (t:Term):List Bd:=match satX t with
  | some k=>assignT k (varsX [t])
  | none=>[]
set_option maxHeartbeats 8000000 in
theorem s_exhaust_Sat (t:Term) (ht:TOk t∧t.count≤10000):R P f_exhaust_Sat [.agg t.row]=some (.tup [.bool (satX t).isSome,.lst ((satA t).map brow),.int .i64 (conE t)]):=by
  have hcd:=s_exhaust_condition t ht
  rcases Classical.propComplete (conE t=0) with c0 | c0
  rotate_left
  · have c0':=of_eq_false c0
    have hX:satX t=none:=by unfold satX;rw [if_neg c0']
    have hA:satA t=[]:=by unfold satA;rw [hX]
    rw [hX,hA]
    generalize conE t=ee at *
    generalize conV t=vv at *
    generalize conT t=tt at *
    (rw [r_exhaust_Sat (lbY rfl),F_exhaust_Sat];simp (disch:=omega) only [eqZ,↓gc_len,seval,-List.reduceReplicate,reduceCtorEq,allP,q_exhaust_condition,hcd,sto_3,st_5l,c0])
    rfl
  · have hE:=of_eq_true c0
    have h0:varsE [t]=0:=by
      rcases Classical.propComplete (varsE [t]=0) with h | h
      · exact of_eq_true h
      · unfold conE at hE;rw [if_pos (of_eq_false h)] at hE;exact hE
    have hg:=good_of h0
    have hC:conV t=varsX [t]:=by unfold conV;rw [hE,if_pos rfl]
    have hT:conT t=tvX [t] t:=by unfold conT;rw [hE,if_pos rfl]
    have hX:satX t=(List.range (2^bitsX [t])).find? (isOne (tvX [t] t)):=by unfold satX;rw [if_pos hE]
    have hrg:=rg_Sat (varsX [t]) hg.w16 (by have:=hg.len;omega) (bitsX [t]) hg.bits16 (tvX [t] t) (by simp [tvX,tabV])
    rw [fold_fndN,← hX] at hrg
    have has:=s_assignments (varsX [t]) hg.ok (by have:=hg.len;omega)
    rw [hg.sum] at has
    rw [hC,hT,hE] at hcd
    rw [hE]
    unfold satA
    generalize satX t=vX at *
    generalize tvX [t] t=tv at *
    generalize varsX [t]=vv at *
    generalize bitsX [t]=bb at *
    cases vX with
    | none=>
      simp only [rangeEnd] at hrg
      (rw [r_exhaust_Sat (lbY rfl),F_exhaust_Sat];simp (disch:=omega) only [eqZ,↓gc_len,seval,-List.reduceReplicate,reduceCtorEq,allP,q_exhaust_condition,hcd,sto_3,st_5l,q_exhaust_assignments,has,kR0_exhaust_Sat,hrg])
      rfl
    | some k=>
      simp only [rangeEnd] at hrg
      (rw [r_exhaust_Sat (lbY rfl),F_exhaust_Sat];simp (disch:=omega) only [eqZ,↓gc_len,seval,-List.reduceReplicate,reduceCtorEq,allP,q_exhaust_condition,hcd,sto_3,st_5l,q_exhaust_assignments,has,kR0_exhaust_Sat,hrg])
      rfl
theorem con_good {t:Term} (h:conE t=0):Good [t]∧t.w=1:=by
  unfold conE at h
  split at h
  · rename_i c;exact absurd h c
  · rename_i c
    refine ⟨good_of (by simpa using c),?_⟩
    split at h
    · assumption
    · cases h
theorem tv_lt {L:List Term} (hg:Good L) {t:Term} (hm:t∈L) (ht:TOk t):∀ x∈tvX L t,x<2^cw t.w:=by
  intro x hx
  unfold tvX tabV at hx
  obtain ⟨k,_,rfl⟩:=List.mem_map.1 hx
  exact (val_ok _ t (check_all (chkL_zero hg.chk t hm)) ht).1
theorem con_le {t:Term} (ht:TOk t):∀ x∈conT t,x≤1:=by
  intro x hx
  unfold conT at hx
  split at hx
  · rename_i h
    obtain ⟨hg,hw⟩:=con_good h
    have:=tv_lt hg (by simp) ht x hx
    rw [hw] at this
    have h2:(2:Nat)^cw 1=2:=by decide
    omega
  · cases hx
theorem con_len (t:Term):(conT t).length≤65536:=by
  unfold conT
  split
  · rename_i h
    have hb:=(con_good h).1.bits16
    have hp:(2:Nat)^bitsX [t]≤2^16:=Nat.pow_le_pow_right (show 0<2 by omega) hb
    simp only [tvX,tabV,List.length_map,List.length_range]
    exact hp
  · simp
def smX (s:Int):List Nat→Int
  | []=>s
  | x :: r=>smX (s+(x:Int)) r
theorem fold_smX:∀ (l:List Nat) (i:Nat) (s:Int),foldE (T:=Empty) (fun _ s (x:Nat)=>.inl (s+(x:Int))) i s l=.inl (smX s l)
  | [],_,s=>rfl
  | a :: l,i,s=>by
    unfold foldE
    simp only
    rw [fold_smX l]
    rfl
def cntX (t:Term):Int:=smX 0 (conT t)
abbrev e_cn (e:Int) (x:List Nat) (s i:Int):List (Nat×AV):=[(6,.p (.int .i64 e)),(7,.p (.int .i64 s)),(16,.p (.lst (x.map urow))),(17,.p (.int .i64 x.length)),(18,.p (.int .i64 i))]
set_option maxHeartbeats 4000000 in
theorem s_exhaust_Count (t:Term) (ht:TOk t∧t.count≤10000):R P f_exhaust_Count [.agg t.row]=some (.tup [.int .i64 (cntX t),.int .i64 (conE t)]):=by
  have hcd:=s_exhaust_condition t ht
  have hle:=con_le ht.1
  have hln:=con_len t
  unfold cntX
  generalize conT t=x at *
  generalize conV t=vv at *
  generalize conE t=ee at *
  obtain ⟨_,h⟩:=loop_run (P:=P) (nt:=29) (lv:=[6,7,16,17,18]) (b:=B0_exhaust_Count) (rd:=none) (as:=x) (fun i (s:Int)=>e_cn ee x s i) (fun s=>[]) (fun _ s v=>s+(v:Int)) (fun i s=>0≤s∧s≤i)
    (fun i v s hv hi hs=>by
      obtain ⟨s0,s1⟩:=hs
      have hlt:((i:Int)<x.length)=True:=by simpa using hi
      have hx:=fun σ=>v_iadr (k:=.i64) (es:=1) (σ:=σ) (map_get (f:=urow) hv) (by simp [urow])
      have hv1:=hle v (List.mem_of_getElem? hv)
      have hwv:IntKind.i64.wrap (v:Int)=v:=IntWalk.i64_in _ (by omega)
      have hwr:IntKind.i64.wrap (s+(v:Int))=s+(v:Int):=IntWalk.i64_in _ (by omega)
      refine ⟨⟨by omega,by omega⟩,?_⟩
      simp only [B0_exhaust_Count]
      simp (disch:=omega) only [eqZ,↓gc_len,seval,-List.reduceReplicate,reduceCtorEq,allP,hlt,hx,List.length_map,urow,hwv,hwr,e_cn]) (fun i s=>rfl) 0 ⟨by omega,by omega⟩ _ (fold_smX x 0 0)
  have h':loopAt P L0_exhaust_Count [(6,.p (.int .i64 ee)),(7,.p (.int .i64 0)),(16,.p (.lst (x.map urow))),(17,.p (.int .i64 x.length)),(18,.p (.int .i64 0))] [] 29 none=_:=h
  (rw [r_exhaust_Count (lbY rfl),F_exhaust_Count];simp (disch:=omega) only [eqZ,↓gc_len,seval,-List.reduceReplicate,reduceCtorEq,allP,k0_exhaust_Count,q_exhaust_condition,hcd,h',B0_exhaust_Count,Int.lt_irrefl,List.length_map,e_cn])
end Go.AE.S
