import Derived.Test.YtiinicliedpmjaaGreatE3
namespace Go.AE.S
open Go Go.AE
set_option linter.unusedSimpArgs false
set_option linter.unusedVariables false
variable {τ:Tm} {σ:Store} {rd:Option Nat}
def valR (l:List Bd) (t:Term):Nat:=if boundB l t=true then t.valT (envB l) else 0
def isOneR (l:List Bd) (t:Term):Bool:=decide (valR l t=1)
theorem fold_allR {α:Type} (q:α→Bool):∀ (l:List α) (i:Nat),foldE (S:=Unit) (T:=Unit) (fun _ _ a=>if q a=true then .inl () else .inr ()) i () l=if l.all q=true then .inl () else .inr ()
  | [],_=>rfl
  | a :: l,i=>by
    unfold foldE
    cases h:q a with
    | true=>simp only [if_true,List.all_cons,h,Bool.true_and];exact fold_allR q l (i+1)
    | false=>simp [h]
def ceR (hs:List Term) (a b:Term) (l:List Bd):Bool:=hs.all (isOneR l) && !decide (valR l a=valR l b)
theorem tvX_get {L:List Term} {t:Term} {k:Nat} (hk:k<2^bitsX L):(tvX L t).getD k 0=t.valT (envB (assignT k (varsX L))):=by
  unfold tvX tabV
  rw [List.getD_eq_getElem?_getD,List.getElem?_map,List.getElem?_range hk]
  rfl
theorem valR_X {L:List Term} (hg:Good L) {t:Term} (hm:t∈L) (k:Nat):valR (assignT k (varsX L)) t=t.valT (envB (assignT k (varsX L))):=by
  unfold valR
  rw [bound_assign (hg.bound hm) k,if_pos rfl]
theorem ceR_X {hs:List Term} {a b:Term} (hg:Good (eqW hs a b)) {k:Nat} (hk:k<2^bitsX (eqW hs a b)):ceX (tabsX hs a b) hs.length k=ceR hs a b (assignT k (varsX (eqW hs a b))):=by
  have ha:a∈eqW hs a b:=by simp [eqW]
  have hb:b∈eqW hs a b:=by simp [eqW]
  have hh:∀ t∈hs,t∈eqW hs a b:=fun t h=>by simp [eqW,h]
  unfold ceX ceR tabsX
  have e1:((eqW hs a b).map (tvX (eqW hs a b))).take hs.length=hs.map (tvX (eqW hs a b)):=by
    rw [← List.map_take];simp [eqW]
  have e2:((eqW hs a b).map (tvX (eqW hs a b))).getD hs.length []=tvX (eqW hs a b) a:=by
    rw [List.getD_eq_getElem?_getD,List.getElem?_map];simp [eqW]
  have e3:((eqW hs a b).map (tvX (eqW hs a b))).getD (hs.length+1) []=tvX (eqW hs a b) b:=by
    rw [List.getD_eq_getElem?_getD,List.getElem?_map];simp [eqW]
  rw [e1,e2,e3,tvX_get hk,tvX_get hk,← valR_X hg ha,← valR_X hg hb]
  congr 1
  unfold allOne
  rw [List.all_map]
  have key:∀ l:List Term,(∀ t∈l,t∈eqW hs a b)→(l.all ((fun x=>decide (x.getD k 0=1))∘tvX (eqW hs a b)))=l.all (isOneR (assignT k (varsX (eqW hs a b)))):=by
    intro l hl
    induction l with
    | nil=>rfl
    | cons t l ih=>
      rw [List.all_cons,List.all_cons,ih fun t h=>hl t (by simp [h])]
      congr 1
      show decide ((tvX (eqW hs a b) t).getD k 0=1)=_
      unfold isOneR
      rw [tvX_get hk,← valR_X hg (hl t (by simp))]
  exact key hs hh
theorem find_congr {p q:Nat→Bool}:∀ {l:List Nat},(∀ k∈l,p k=q k)→l.find? p=l.find? q
  | [],_=>rfl
  | a :: l,h=>by
    rw [List.find?_cons,List.find?_cons,h a (by simp),find_congr fun k hk=>h k (by simp [hk])]
def fewB (l:List Term):Bool:=(l.all fun t=>decide ((t.deep:Int)≤66∧(t.count:Int)≤40)) && decide (l.length≤6)
def smallB (l:List Term):Bool:=fewB l && (!decide (varsE l=0) || decide (bitsX l≤7))
abbrev e_fw (l:List Term) (i:Int):List (Nat×AV):=[(0,.p (.lst (l.map Term.row))),(3,.p (.int .i64 i))]
def outFw (r:Ex×St):Prop:=r.1=.ret∧r.2.τ.get 2=.p (.bool false)∧r.2.σ=[]
theorem ini_5t {t:Term}:initV σ 5 true (cellsOf 5 true (.p (.agg t.row)))=some (.p (.ptr t.row 0),σ):=by rw [Term.row_eq t];rfl
set_option maxHeartbeats 4000000 in
theorem s_r11_Few (l:List Term) (ht:∀ t∈l,TOk t) (hl:l.length≤9223372036854775807):R P f_r11_Few [.lst (l.map Term.row)]=some (.bool (fewB l)):=by
  have hh:=loop_to (P:=P) (nt:=25) (lv:=[0,3]) (b:=B0_r11_Few) (rd:=none) (as:=l) (fun i (_:Unit)=>e_fw l i) (fun _=>[]) (fun _ _ t=>if decide ((t.deep:Int)≤66∧(t.count:Int)≤40)=true then .inl () else .inr ()) (fun _ r=>outFw r) (fun _ _=>True)
    (fun i t s hv hi _=>by
      refine ⟨fun _ _=>trivial,?_⟩
      have hlt:((i:Int)<l.length)=True:=by simpa using hi
      have hx:=fun σ=>v_iadr (k:=.i64) (es:=5) (σ:=σ) (map_get (f:=Term.row) hv) t.row_len
      have hr:=s_r06_Light t (ht t (List.mem_of_getElem? hv)) 66 40 (by decide) (by decide)
      unfold lightV at hr
      by_cases c:(t.deep:Int)≤66∧(t.count:Int)≤40
      · rw [if_pos c] at hr
        simp only [B0_r11_Few,decide_eq_true c,if_true]
        simp (disch:=omega) only [eqZ,↓gc_len,seval,-List.reduceReplicate,reduceCtorEq,allP,hlt,hx,List.length_map,q_r06_Light,hr,ini_5t,e_fw]
      · rw [if_neg c] at hr
        simp only [B0_r11_Few,decide_eq_false c,Bool.false_eq_true,if_false]
        simp (disch:=omega) only [eqZ,↓gc_len,seval,-List.reduceReplicate,reduceCtorEq,allP,hlt,hx,List.length_map,q_r06_Light,hr,ini_5t,e_fw,outFw]) (fun i s=>rfl) () trivial
  rw [fold_allR] at hh
  unfold fewB
  cases hb:l.all fun t=>decide ((t.deep:Int)≤66∧(t.count:Int)≤40) with
  | true=>
    rw [hb,if_pos rfl] at hh
    have h':loopAt P L0_r11_Few [(0,.p (.lst (l.map Term.row))),(3,.p (.int .i64 0))] [] 25 none=_:=hh.2
    have hd:decide (l.length≤6)=decide ((l.length:Int)≤6):=by
      apply decide_eq_decide.2;omega
    rw [Bool.true_and,hd]
    (rw [r_r11_Few (lbY rfl),F_r11_Few];simp (disch:=omega) only [eqZ,↓gc_len,seval,-List.reduceReplicate,reduceCtorEq,allP,k0_r11_Few,h',B0_r11_Few,Int.lt_irrefl,List.length_map])
  | false=>
    rw [hb,if_neg (by simp)] at hh
    obtain ⟨⟨e',τ',σ',nt',rd'⟩,g1,g2,g3,g4⟩:=hh
    simp only at g2 g3 g4
    subst g2
    have h':loopAt P L0_r11_Few [(0,.p (.lst (l.map Term.row))),(3,.p (.int .i64 0))] [] 25 none=_:=g1
    rw [Bool.false_and]
    (rw [r_r11_Few (lbY rfl),F_r11_Few];simp (disch:=omega) only [eqZ,↓gc_len,seval,-List.reduceReplicate,reduceCtorEq,allP,k0_r11_Few,h',g3,g4])
theorem few_all {l:List Term} (h:fewB l=true):(∀ t∈l,t.deep≤66∧t.count≤40)∧l.length≤6:=by
  unfold fewB at h
  rw [Bool.and_eq_true,List.all_eq_true] at h
  refine ⟨fun t ht=>?_,of_decide_eq_true h.2⟩
  have:=of_decide_eq_true (h.1 t ht)
  omega
set_option maxHeartbeats 4000000 in
theorem s_r11_Small (l:List Term) (ht:∀ t∈l,TOk t) (hl:l.length≤9223372036854775807):R P f_r11_Small [.lst (l.map Term.row)]=some (.bool (smallB l)):=by
  have hf:=s_r11_Few l ht hl
  unfold smallB
  cases hb:fewB l with
  | false=>
    rw [hb] at hf
    (rw [r_r11_Small (lbY rfl),F_r11_Small];simp (disch:=omega) only [eqZ,↓gc_len,seval,-List.reduceReplicate,reduceCtorEq,allP,q_r11_Few,hf])
    rfl
  | true=>
    rw [hb] at hf
    obtain ⟨h1,h2⟩:=few_all hb
    have hV:=s_r11_Vars l (fun t h=>⟨ht t h,by have:=(h1 t h).2;omega⟩) (by omega)
    rcases Classical.propComplete (varsE l=0) with c0 | c0
    rotate_left
    · generalize varsE l=ee at *
      generalize varsR l=vv at *
      (rw [r_r11_Small (lbY rfl),F_r11_Small];simp (disch:=omega) only [eqZ,↓gc_len,seval,-List.reduceReplicate,reduceCtorEq,allP,q_r11_Few,hf,q_r11_Vars,hV,c0])
      rfl
    · have hg:=good_of (of_eq_true c0)
      have hR:varsR l=varsX l:=by unfold varsR;rw [if_pos (of_eq_true c0)]
      rw [of_eq_true c0,hR] at hV
      have hbits:=r_BitsX (varsX l) hg.ok (by have:=hg.len;omega)
      rw [hg.bitsV] at hbits
      have hd:decide (bitsX l≤7)=decide ((bitsX l:Int)≤7):=by apply decide_eq_decide.2;omega
      rw [of_eq_true c0,hd]
      generalize varsX l=vv at *
      generalize bitsX l=bb at *
      (rw [r_r11_Small (lbY rfl),F_r11_Small];simp (disch:=omega) only [eqZ,↓gc_len,seval,-List.reduceReplicate,reduceCtorEq,allP,q_r11_Few,hf,q_r11_Vars,hV,q_r08_Bits,hbits])
      rfl
end Go.AE.S
