import Derived.Test.YtiinicliedpmjaaGreatC2
import Derived.Test.YtiinicliedpmjaaGreatD3
import Derived.Test.YtiinicliedpmjaaGreatDa
namespace Go.AE.S
open Go Go.AE
set_option linter.unusedSimpArgs false
set_option linter.unusedVariables false
def ltNW (a b:V2):Bool:=slt a.name b.name || (a.name.toList == b.name.toList && decide (a.w<b.w))
theorem ltVW_row (a b:V2):ltVW (vrow a) (vrow b)=ltNW a b:=rfl
theorem ltNW_irrefl (a:V2):ltNW a a=false:=by simp [ltNW,slt_irrefl]
theorem tl_inj {a b:ByteArray} (h:a.toList=b.toList):a=b:=by
  rcases slt_tri a b with h1 | h1 | h1
  · unfold slt at h1;rw [h] at h1
    have:=slt_irrefl b
    unfold slt at this
    rw [this] at h1;cases h1
  · exact h1
  · unfold slt at h1;rw [h] at h1
    have:=slt_irrefl b
    unfold slt at this
    rw [this] at h1;cases h1
theorem ltNW_iff (a b:V2):ltNW a b=true↔slt a.name b.name=true∨(a.name=b.name∧a.w<b.w):=by
  unfold ltNW
  simp only [Bool.or_eq_true,Bool.and_eq_true,beq_iff_eq,decide_eq_true_eq]
  exact or_congr Iff.rfl (and_congr ⟨tl_inj,fun h=>by rw [h]⟩ Iff.rfl)
theorem ltNW_tri (a b:V2):ltNW a b=true∨a=b∨ltNW b a=true:=by
  rcases slt_tri a.name b.name with h | h | h
  · exact .inl ((ltNW_iff a b).2 (.inl h))
  · rcases Int.lt_trichotomy a.w b.w with h2 | h2 | h2
    · exact .inl ((ltNW_iff a b).2 (.inr ⟨h,h2⟩))
    · exact .inr (.inl (by cases a;cases b;simp only at h h2;rw [h,h2]))
    · exact .inr (.inr ((ltNW_iff b a).2 (.inr ⟨h.symm,h2⟩)))
  · exact .inr (.inr ((ltNW_iff b a).2 (.inl h)))
theorem ltNW_trans {a b c:V2} (h1:ltNW a b=true) (h2:ltNW b c=true):ltNW a c=true:=by
  rw [ltNW_iff] at *
  rcases h1 with h1 | ⟨e1,h1⟩<;>rcases h2 with h2 | ⟨e2,h2⟩
  · exact .inl (slt_trans h1 h2)
  · exact .inl (e2 ▸ h1)
  · exact .inl (e1 ▸ h2)
  · exact .inr ⟨e1.trans e2,by omega⟩
theorem ltNW_asym {a b:V2} (h:ltNW a b=true):ltNW b a=false:=by
  cases hb:ltNW b a with
  | false=>rfl
  | true=>have:=ltNW_trans h hb;rw [ltNW_irrefl] at this;cases this
theorem insR_perm {α:Type} (lt:α→α→Bool) (x:α):∀ l:List α,(insR lt x l).Perm (x :: l)
  | []=>.refl _
  | y :: r=>by
    unfold insR
    split
    · exact ((insR_perm lt x r).cons y).trans (.swap x y r)
    · exact .refl _
theorem isort_perm {α:Type} (lt:α→α→Bool):∀ l:List α,(isort lt l).Perm l
  | []=>.refl _
  | x :: r=>(insR_perm lt x (isort lt r)).trans ((isort_perm lt r).cons x)
def SortW (l:List V2):Prop:=l.Pairwise fun a b=>ltNW b a=false
theorem insR_sortW {x:V2}:∀ {l:List V2},SortW l→SortW (insR ltNW x l)
  | [],_=>by simp [insR,SortW]
  | z :: r,hs=>by
    have hs':=List.pairwise_cons.1 hs
    unfold insR
    split
    · rename_i hzx
      refine List.pairwise_cons.2 ⟨fun b hb=>?_,insR_sortW hs'.2⟩
      rcases insR_mem.1 hb with rfl | hb
      · exact ltNW_asym hzx
      · exact hs'.1 b hb
    · rename_i hzx
      refine List.pairwise_cons.2 ⟨fun b hb=>?_,hs⟩
      rcases List.mem_cons.1 hb with rfl | hb
      · simpa using hzx
      · cases hbx:ltNW b x with
        | false=>rfl
        | true=>
          exfalso
          have h1:=hs'.1 b hb
          rcases ltNW_tri b z with h | rfl | h
          · rw [h] at h1;cases h1
          · exact hzx hbx
          · exact hzx (ltNW_trans h hbx)
theorem isort_sortW:∀ l:List V2,SortW (isort ltNW l)
  | []=>by simp [isort,SortW]
  | x :: r=>insR_sortW (isort_sortW r)
theorem sortW_uniq {l m:List V2} (hl:SortW l) (hm:SortW m) (hp:l.Perm m):l=m :=
  List.Perm.eq_of_pairwise (fun a b _ _ h1 h2=>by
    rcases ltNW_tri a b with h | h | h
    · rw [h2] at h;cases h
    · exact h
    · rw [h1] at h;cases h) hl hm hp
def runV (p:V2):List V2→List V2
  | []=>[]
  | a :: r=>if a.name=p.name∧a.w=p.w then runV p r else a :: runV a r
def compV:List V2→List V2
  | []=>[]
  | a :: r=>a :: runV a r
theorem v2_ext {a b:V2} (h1:a.name=b.name) (h2:a.w=b.w):a=b:=by cases a;cases b;simp only at h1 h2;rw [h1,h2]
theorem eqVW_row (a b:V2):compactR.eqVW (vrow a) (vrow b)=true↔a=b:=by
  show (a.name.toList == b.name.toList && decide (a.w=b.w))=true↔_
  simp only [Bool.and_eq_true,beq_iff_eq,decide_eq_true_eq]
  exact ⟨fun h=>v2_ext (tl_inj h.1) h.2,fun h=>by rw [h];exact ⟨rfl,rfl⟩⟩
theorem compactR_cons (a:V2):∀ r:List V2,compactR ((a :: r).map vrow)=(a :: runV a r).map vrow:=by
  intro r
  induction r generalizing a with
  | nil=>rfl
  | cons b r ih=>
    have e:compactR ((a :: b :: r).map vrow)=if compactR.eqVW (vrow a) (vrow b) then compactR ((b :: r).map vrow) else vrow a :: compactR ((b :: r).map vrow):=rfl
    rw [e,ih b]
    by_cases h:a=b
    · subst h
      rw [if_pos ((eqVW_row a a).2 rfl)]
      simp [runV]
    · rw [if_neg (fun x=>h ((eqVW_row a b).1 x))]
      have:¬ (b.name=a.name∧b.w=a.w):=fun x=>h (v2_ext x.1.symm x.2.symm)
      simp [runV,this]
theorem compactR_row:∀ l:List V2,compactR (l.map vrow)=(compV l).map vrow
  | []=>rfl
  | a :: r=>compactR_cons a r
variable {τ:Tm} {σ:Store} {rd:Option Nat}
def chkL:List Term→Int
  | []=>0
  | t :: r=>if checkT t=0 then chkL r else checkT t
theorem fold_chk:∀ (l:List Term) (i:Nat),foldE (S:=Unit) (T:=Int) (fun _ _ t=>if checkT t=0 then .inl () else .inr (checkT t)) i () l=if chkL l=0 then .inl () else .inr (chkL l)
  | [],i=>rfl
  | t :: l,i=>by
    unfold foldE chkL
    by_cases h:checkT t=0
    · simp only [h,if_true]
      exact fold_chk l (i+1)
    · simp only [h,if_false]
def outX (e:Int) (r:Ex×St):Prop:=r.1=.ret∧r.2.τ.get 2=.nils∧r.2.τ.get 3=.p (.int .i64 e)
abbrev e_x0 (l:List Term) (i:Int):List (Nat×AV):=[(0,.p (.lst (l.map Term.row))),(13,.p (.lst (l.map Term.row))),(14,.p (.int .i64 l.length)),(15,.p (.int .i64 i))]
set_option maxHeartbeats 4000000 in
theorem l0_xVars (l:List Term) (ht:∀ t∈l,TOk t∧t.count≤1000000) (hl:l.length≤1000):if chkL l=0 then loopAt P L0_exhaust_Vars (e_x0 l 0) [] 68 none=back P [0,13,14,15] B0_exhaust_Vars 0 (exec P B0_exhaust_Vars ⟨tm (e_x0 l l.length),[],68,none⟩) else ∃ r,loopAt P L0_exhaust_Vars (e_x0 l 0) [] 68 none=some r∧outX (chkL l) r:=by
  have h:=loop_to (P:=P) (nt:=68) (lv:=[0,13,14,15]) (b:=B0_exhaust_Vars) (rd:=none) (as:=l) (fun k (_:Unit)=>e_x0 l k) (fun _=>[]) (fun _ _ t=>if checkT t=0 then .inl () else .inr (checkT t)) outX (fun _ _=>True)
    (fun i t s hv hi hs=>by
      refine ⟨fun _ _=>trivial,?_⟩
      have hlt:((i:Int)<l.length)=True:=by simpa using hi
      have hx:=fun σ=>v_iadr (k:=.i64) (es:=5) (σ:=σ) (map_get (f:=Term.row) hv) t.row_len
      obtain ⟨h1,h2⟩:=ht t (List.mem_of_getElem? hv)
      have hk:=s_term_Check t h1 h2
      rcases Classical.propComplete (checkT t=0) with c | c
      · simp only [B0_exhaust_Vars,of_eq_true c,if_true]
        rw [of_eq_true c] at hk
        simp (disch:=omega) only [eqZ,↓gc_len,seval,-List.reduceReplicate,reduceCtorEq,allP,hlt,hx,List.length_map,q_term_Check,hk,e_x0,outX]
      · simp only [B0_exhaust_Vars,c,if_false]
        simp (disch:=omega) only [eqZ,↓gc_len,seval,-List.reduceReplicate,reduceCtorEq,allP,hlt,hx,List.length_map,q_term_Check,hk,c,e_x0,outX]) (fun i s=>rfl) () trivial
  rw [fold_chk] at h
  by_cases hb:chkL l=0
  · rw [if_pos hb] at h;rw [if_pos hb];exact h.2
  · rw [if_neg hb] at h;rw [if_neg hb];exact h
def allVs (l:List Term):List V2:=l.flatMap varsT
abbrev sX (s:Bool×List V2):Store:=[.pv (if s.1=true then 2 else 0) (s.2.map vrow) false]
abbrev e_x1 (l:List Term) (s:Bool×List V2) (i:Int):List (Nat×AV):=[(7,.sl 0 s.2.length),(25,.p (.lst (l.map Term.row))),(26,.p (.int .i64 l.length)),(27,.p (.int .i64 i))]
theorem fold_allVs:∀ (l:List Term) (i:Nat) (s:Bool×List V2),foldE (T:=Empty) (fun _ (s:Bool×List V2) t=>.inl (true,s.2++varsT t)) i s l=.inl (if l=[] then s else (true,s.2++allVs l))
  | [],i,s=>rfl
  | t :: l,i,s=>by
    rw [foldE]
    simp only
    rw [fold_allVs l (i+1)]
    cases l with
    | nil=>simp [allVs]
    | cons b l=>simp [allVs]
theorem v_wide (l:List V2):wide 2 (l.map vrow)=true:=by
  simp [wide,vrow]
set_option maxHeartbeats 4000000 in
theorem l1_xVars (l:List Term) (ht:∀ t∈l,t.count≤1000000) (hl:l.length≤1000):loopAt P L1_exhaust_Vars (e_x1 l (false,[]) 0) (sX (false,[])) 68 none=back P [7,25,26,27] B1_exhaust_Vars 1 (exec P B1_exhaust_Vars ⟨tm (e_x1 l (!l.isEmpty,allVs l) l.length),sX (!l.isEmpty,allVs l),68,none⟩):=by
  obtain ⟨_,h⟩:=loop_run (P:=P) (nt:=68) (lv:=[7,25,26,27]) (b:=B1_exhaust_Vars) (rd:=none) (as:=l) (fun i (s:Bool×List V2)=>e_x1 l s i) sX (fun _ s t=>(true,s.2++varsT t)) (fun i s=>s.2.length≤i*1000000∧(s.1=false→s.2=[]))
    (fun i t s hv hi hs=>by
      obtain ⟨f,s⟩:=s
      obtain ⟨h1,h2⟩:=hs
      simp only at h1 h2
      have hlt:((i:Int)<l.length)=True:=by simpa using hi
      have hx:=fun σ=>v_iadr (k:=.i64) (es:=5) (σ:=σ) (map_get (f:=Term.row) hv) t.row_len
      have hc:=ht t (List.mem_of_getElem? hv)
      have hV:=s_term_Vars t hc
      have hn:=vars_len t
      have hsp:=fun σ=>src_p (σ:=σ) (v_wide (varsT t))
      have hi2:i*1000000≤1000*1000000:=Nat.mul_le_mul_right _ (by omega)
      have hap:=v_append (σ:=sX (f,s)) (b:=0) (n:=s.length) (e:=if f=true then 2 else 0) (es:=2) (bytes:=24) (rows:=s.map vrow) (new:=(varsT t).map vrow) rfl (by simp) (by cases f with | true=>exact .inl rfl | false=>exact .inr ⟨rfl,by rw [h2 rfl];rfl⟩) (by rw [List.length_map];omega)
      simp only [sX] at hap
      refine ⟨⟨by simp only [List.length_append];omega,fun h=>by cases h⟩,?_⟩
      simp only [B1_exhaust_Vars]
      generalize varsT t=V at *
      simp (disch:=omega) only [eqZ,↓gc_len,seval,-List.reduceReplicate,reduceCtorEq,allP,hlt,hx,List.length_map,q_term_Vars,hV,hsp,hap,List.map_append,List.length_append,e_x1,sX]) (fun i s=>rfl) (false,[]) ⟨by simp,fun _=>rfl⟩ _ (fold_allVs l 0 (false,[]))
  cases l with
  | nil=>exact h
  | cons a l=>exact h
theorem ldo_v {K:List V2} {v:V2} {m i:Nat} {fr:Bool} (h:K[i]? = some v) (hn:K.length=m):ldO m i 0 2 true (some (.pv 2 (K.map vrow) fr))=some (.p (.agg (vrow v))):=by
  have hi:=(List.getElem?_eq_some_iff.1 h).1
  have h2:=(List.getElem?_eq_some_iff.1 h).2
  simp [ldO,hn,h2,h]
  rfl
theorem ldo_s {K:List V2} {v:V2} {m i:Nat} {fr:Bool} (h:K[i]? = some v) (hn:K.length=m):ldO m i 0 1 false (some (.pv 2 (K.map vrow) fr))=some (.p (.str v.name)):=by
  have hi:=(List.getElem?_eq_some_iff.1 h).1
  have h2:=(List.getElem?_eq_some_iff.1 h).2
  simp [ldO,hn,h2,h]
  rfl
def cndX (K:List V2) (i:Nat) (v:V2):Bool:=decide (0<i) && (match K[i-1]? with | some u=>decide (u.name=v.name) | none=>false)
theorem below_gone {n:Nat}:AE.Obj.below n .gone=true:=rfl
def dupA (K:List V2):List V2→Nat→Bool
  | [],_=>false
  | v :: r,i=>cndX K i v || dupA K r (i+1)
def sumW:List V2→Int
  | []=>0
  | v :: r=>v.w+sumW r
def stepX (K:List V2) (i:Nat) (s:Int) (v:V2):Int ⊕ Unit:=if cndX K i v=true then .inr () else .inl (s+v.w)
theorem fold_stepX (K:List V2):∀ (l:List V2) (i:Nat) (s:Int),foldE (stepX K) i s l=if dupA K l i=true then .inr () else .inl (s+sumW l)
  | [],i,s=>by simp [foldE,dupA,sumW]
  | v :: l,i,s=>by
    rw [foldE]
    unfold stepX dupA
    by_cases h:cndX K i v=true
    · rw [if_pos h,h];simp
    · rw [if_neg h]
      have h':cndX K i v=false:=by simpa using h
      rw [h']
      simp only [Bool.false_or]
      have:=fold_stepX K l (i+1) (s+v.w)
      unfold stepX at this
      rw [this,sumW,Int.add_assoc]
abbrev e_x2 (K:List V2) (s i:Int):List (Nat×AV):=[(7,.sl 1 K.length),(10,.p (.int .i64 s)),(40,.sl 1 K.length),(41,.p (.int .i64 K.length)),(42,.p (.int .i64 i))]
abbrev sY (e:Nat) (K:List V2):Store:=[.gone,.pv e (K.map vrow) false]
theorem al_v2 {o o1:Obj}:allocV 2 (eagers [.p (.str (bs [])),.p (.int .i64 0)] [o,o1])=some (.ptr 2 1 0 0,[o,o1,.pv 2 [[.str (bs []),.int .i64 0]] false]):=rfl
set_option maxHeartbeats 8000000 in
theorem l2_xVars (e:Nat) (K:List V2) (he:e=2∨K=[]) (hw:∀ v∈K,okV2 v) (hl:K.length≤1000000000):if dupA K K 0=true then ∃ r,loopAt P L2_exhaust_Vars (e_x2 K 0 0) (sY e K) 68 none=some r∧outX 12 r else loopAt P L2_exhaust_Vars (e_x2 K 0 0) (sY e K) 68 none=back P [7,10,40,41,42] B2_exhaust_Vars 2 (exec P B2_exhaust_Vars ⟨tm (e_x2 K (sumW K) K.length),sY e K,68,none⟩):=by
  have h:=loop_to (P:=P) (nt:=68) (lv:=[7,10,40,41,42]) (b:=B2_exhaust_Vars) (rd:=none) (as:=K) (fun i (s:Int)=>e_x2 K s i) (fun _=>sY e K) (stepX K) (fun (_:Unit)=>outX 12) (fun i s=>0≤s∧s≤i*64)
    (fun i v s hv hi hs=>by
      obtain ⟨s0,s1⟩:=hs
      have he2:e=2:=by
        rcases he with h | h
        · exact h
        · rw [h] at hv;cases hv
      subst he2
      have hok:=hw v (List.mem_of_getElem? hv)
      unfold okV2 at hok
      have hlt:((i:Int)<K.length)=True:=by simpa using hi
      have hia:iadrSV (sY 2 K) 2 (.sl 1 K.length) (.p (.int .i64 i))=some (.ptr 1 K.length i 0):=ia_pv rfl (by simp) hi
      have hld:=ldo_v (m:=K.length) (fr:=false) hv rfl
      have hwr:IntKind.i64.wrap (s+v.w)=s+v.w:=IntWalk.i64_in _ (by omega)
      unfold stepX
      refine ⟨fun s' he=>?_,?_⟩
      · by_cases hc:cndX K i v=true
        · rw [if_pos hc] at he;cases he
        · rw [if_neg hc] at he
          cases he
          exact ⟨by omega,by omega⟩
      cases i with
      | zero=>
        have h0:((0:Int) > 0)=False:=by simp
        have hz:cndX K 0 v=false:=rfl
        have h01:IntKind.i64.wrap 1=1:=IntWalk.i64_in _ (by omega)
        simp only [B2_exhaust_Vars,hz,Bool.false_eq_true,if_false]
        simp only [sY,Int.natCast_zero] at hia hlt
        simp (disch:=omega) only [eqZ,↓gc_len,seval,-List.reduceReplicate,reduceCtorEq,allP,hlt,hia,hld,al_v2,st_v,ld_v0,ld_v1,hwr,h0,h01,below_gone,e_x2,sY]
      | succ j=>
        have hj:j<K.length:=by omega
        have hgt:(((j+1:Nat):Int) > 0)=True:=by simp only [eq_iff_iff,iff_true];omega
        have hjm:IntKind.i64.wrap (((j+1:Nat):Int)-1)=(j:Int):=by rw [IntWalk.i64_in _ (by omega)];omega
        obtain ⟨u,hu⟩:∃ u,K[j]? = some u:=⟨_,List.getElem?_eq_getElem hj⟩
        have hia2:=fun (o:Obj)=>(ia_pv (σ:=[.gone,.pv 2 (K.map vrow) false,o]) (b:=1) (m:=K.length) (es:=2) (j:=j) (fr:=false) rfl (by simp) hj:iadrSV _ 2 (.sl 1 K.length) (.p (.int .i64 j))=_)
        have hls:=ldo_s (m:=K.length) (fr:=false) hu rfl
        have hz:cndX K (j+1) v=decide (u.name=v.name):=by
          unfold cndX
          rw [show j+1-1=j from rfl,hu]
          simp
        simp only [sY] at hia
        simp only [B2_exhaust_Vars,hz]
        rcases Classical.propComplete (u.name=v.name) with hn | hn
        · simp only [hn,decide_true,if_true]
          rw [of_eq_true hn] at hls
          simp (disch:=omega) only [eqZ,↓gc_len,seval,-List.reduceReplicate,reduceCtorEq,allP,hlt,hia,hld,al_v2,st_v,ld_v0,ld_v1,hgt,hjm,hia2,hls,below_gone,e_x2,sY,outX]
        · simp only [hn,decide_false,Bool.false_eq_true,if_false]
          simp (disch:=omega) only [eqZ,↓gc_len,seval,-List.reduceReplicate,reduceCtorEq,allP,hlt,hia,hld,al_v2,st_v,ld_v0,ld_v1,hwr,hgt,hjm,hia2,hls,hn,below_gone,e_x2,sY]) (fun i s=>rfl) 0 ⟨by omega,by omega⟩
  rw [fold_stepX] at h
  cases hb:dupA K K 0 with
  | true=>rw [hb,if_pos rfl] at h;rw [if_pos rfl];exact h
  | false=>rw [hb,if_neg (by simp),Int.zero_add] at h;rw [if_neg (by simp)];exact h.2
theorem var_w {u:Term} (h:nodeN u=0) (h1:u.op=1):1≤u.w∧u.w≤64:=by
  have hn:=nodeok8 h
  refine ⟨hn.w,?_⟩
  have hw:=hn.wd
  have ha:=hn.ar.1
  rw [h1] at hw ha
  have hz:arity 1=0:=by decide
  unfold widthW at hw
  split at hw
  · have:=congrArg Prod.snd hw;simp at this
  · split at hw
    · have:=congrArg Prod.snd hw;simp at this
    · have hw2:leafW 1 u.w u.v=(u.w,0):=hw
      unfold leafW at hw2
      split at hw2
      · have:=congrArg Prod.snd hw2;simp at this
      · omega
theorem vars_okV {t:Term} (h:checkT t=0):∀ v∈varsT t,okV2 v:=by
  intro v hv
  obtain ⟨u,hu,h1,rfl⟩:=vars_in hv
  exact var_w (((check_zero t).1 h).2.2.1 u hu) h1
theorem chkL_zero:∀ {l:List Term},chkL l=0→∀ t∈l,checkT t=0
  | [],_,t,ht=>by simp at ht
  | a :: l,h,t,ht=>by
    unfold chkL at h
    by_cases h1:checkT a=0
    · rw [if_pos h1] at h
      rcases List.mem_cons.1 ht with rfl | ht
      · exact h1
      · exact chkL_zero h t ht
    · rw [if_neg h1] at h;exact absurd h h1
theorem runV_mem:∀ (l:List V2) (p v:V2),(v∈runV p l→v∈l)∧(v∈l→v∈runV p l∨v=p)
  | [],p,v=>by simp [runV]
  | a :: r,p,v=>by
    unfold runV
    split
    · rename_i h
      have e:a=p:=v2_ext h.1 h.2
      obtain ⟨i1,i2⟩:=runV_mem r p v
      refine ⟨fun hm=>List.mem_cons_of_mem _ (i1 hm),fun hm=>?_⟩
      rcases List.mem_cons.1 hm with rfl | hm
      · exact .inr e
      · exact i2 hm
    · obtain ⟨i1,i2⟩:=runV_mem r a v
      refine ⟨fun hm=>?_,fun hm=>?_⟩
      · rcases List.mem_cons.1 hm with rfl | hm
        · simp
        · exact List.mem_cons_of_mem _ (i1 hm)
      · rcases List.mem_cons.1 hm with rfl | hm
        · exact .inl (by simp)
        · rcases i2 hm with h2 | rfl
          · exact .inl (List.mem_cons_of_mem _ h2)
          · exact .inl (by simp)
theorem compV_mem {l:List V2} {v:V2}:v∈compV l↔v∈l:=by
  cases l with
  | nil=>rfl
  | cons a r=>
    unfold compV
    obtain ⟨i1,i2⟩:=runV_mem r a v
    refine ⟨fun hm=>?_,fun hm=>?_⟩
    · rcases List.mem_cons.1 hm with rfl | hm
      · simp
      · exact List.mem_cons_of_mem _ (i1 hm)
    · rcases List.mem_cons.1 hm with rfl | hm
      · simp
      · rcases i2 hm with h2 | rfl
        · exact List.mem_cons_of_mem _ h2
        · simp
theorem runV_len2 (l:List V2):∀ p,(runV p l).length≤l.length:=by
  induction l with
  | nil=>intro p;simp [runV]
  | cons a r ih=>intro p;unfold runV;split;exact Nat.le_succ_of_le (ih p);simp [ih a]
theorem compV_len2 (l:List V2):(compV l).length≤l.length:=by cases l with | nil=>simp [compV] | cons a r=>simp [compV,runV_len2]
def varsX (l:List Term):List V2:=compV (isort ltNW (allVs l))
theorem varsX_mem {l:List Term} {v:V2}:v∈varsX l↔∃ t∈l,v∈varsT t:=by
  unfold varsX allVs
  rw [compV_mem,isort_mem,List.mem_flatMap]
theorem varsX_ok {l:List Term} (h:chkL l=0):∀ v∈varsX l,okV2 v:=by
  intro v hv
  obtain ⟨t,ht,hv⟩:=varsX_mem.1 hv
  exact vars_okV (chkL_zero h t ht) v hv
theorem allVs_len:∀ {l:List Term} (n:Nat),(∀ t∈l,t.count≤n)→(allVs l).length≤l.length*n
  | [],n,_=>by simp [allVs]
  | t :: l,n,h=>by
    have h1:=allVs_len (l:=l) n (fun a ha=>h a (List.mem_cons_of_mem _ ha))
    have h2:=Nat.le_trans (vars_len t) (h t (by simp))
    show (varsT t++allVs l).length≤(l.length+1)*n
    rw [List.length_append,Nat.add_mul]
    omega
theorem varsX_len {l:List Term} (n:Nat) (h:∀ t∈l,t.count≤n):(varsX l).length≤l.length*n :=
  Nat.le_trans (compV_len2 _) (by rw [(isort_perm ltNW (allVs l)).length_eq];exact allVs_len n h)
theorem c_SortW (f:Bool) (l:List V2) (hf:f=false→l=[]) (hl:l.length≤1000000000):callF P f_slices_SortFunc_api_Var_api_Var [.sl 0 l.length,.p (.fn f_exhaust_Vars_1 [])] (sX (f,l))=some (.p (.tup []),sX (f,isort ltNW l)):=by
  rw [q_slices_SortFunc_api_Var_api_Var]
  have h1:primSort 2 f_term_Vars_2 okV ltV [.sl 0 l.length,.p (.fn f_exhaust_Vars_1 [])] (sX (f,l))=none:=by
    have hne:¬ f_exhaust_Vars_1=f_term_Vars_2:=by decide
    simp only [primSort,if_neg hne]
  have h2:primSortT 2 f_exhaust_Vars_1 okV ltVW [.sl 0 l.length,.p (.fn f_exhaust_Vars_1 [])] (sX (f,l))=some (.p (.tup []),sX (f,isort ltNW l)):=by
    simp only [primSortT,sX,if_true,List.getElem?_cons_zero]
    rw [if_pos ⟨by simp,by omega,by cases f with | true=>exact .inr rfl | false=>exact .inl (by rw [hf rfl];rfl),all_okV l⟩]
    simp only [List.set_cons_zero,isort_map ltVW_row]
  unfold primSort2
  rw [h1,h2]
  rfl
theorem c_Compact (f:Bool) (l:List V2) (hf:f=false→l=[]) (hl:l.length≤1000000000):callF P f_slices_Compact_api_Var_api_Var [.sl 0 l.length] (sX (f,l))=some (.sl 1 (compV l).length,[.gone,.pv (if f=true then 2 else 0) ((compV l).map vrow) false]):=by
  rw [q_slices_Compact_api_Var_api_Var]
  simp only [primCompact,sX,List.getElem?_cons_zero]
  rw [if_pos ⟨by simp,by omega,by cases f with | true=>exact .inr rfl | false=>exact .inl (by rw [hf rfl];rfl),all_okV l⟩]
  simp only [compactR_row,List.length_map,List.length_cons,List.length_nil,List.set_cons_zero,List.cons_append,List.nil_append]
def varsE (l:List Term):Int:=if ¬ chkL l=0 then chkL l else if dupA (varsX l) (varsX l) 0=true then 12 else if 16<sumW (varsX l) then 7 else 0
def varsR (l:List Term):List V2:=if varsE l=0 then varsX l else []
set_option maxHeartbeats 8000000 in
theorem s_exhaust_Vars (l:List Term) (ht:∀ t∈l,TOk t∧t.count≤1000000) (hl:l.length≤1000):R P f_exhaust_Vars [.lst (l.map Term.row)]=some (.tup [.lst ((varsR l).map vrow),.int .i64 (varsE l)]):=by
  have h0:=l0_xVars l ht hl
  have h1:=l1_xVars l (fun t h=>(ht t h).2) hl
  have hlen:=allVs_len (l:=l) 1000000 (fun t h=>(ht t h).2)
  have hl2:l.length*1000000≤1000*1000000:=Nat.mul_le_mul_right _ hl
  have hK:=varsX_len (l:=l) 1000000 (fun t h=>(ht t h).2)
  have hf:(!l.isEmpty)=false→allVs l=[]:=fun h=>by
    cases l with
    | nil=>rfl
    | cons a l=>cases h
  have hs:=c_SortW (!l.isEmpty) (allVs l) hf (by omega)
  have hil:(isort ltNW (allVs l)).length=(allVs l).length:=(isort_perm ltNW (allVs l)).length_eq
  have hc:=c_Compact (!l.isEmpty) (isort ltNW (allVs l)) (fun h=>by rw [hf h];rfl) (by rw [hil];omega)
  rw [hil] at hc
  simp only [e_x0] at h0
  simp only [e_x1] at h1
  rcases Classical.propComplete (chkL l=0) with c0 | c0
  rotate_left
  · rw [if_neg (of_eq_false c0)] at h0
    have c0':=of_eq_false c0
    have hE:varsE l=chkL l:=by unfold varsE;rw [if_pos c0']
    have hR:varsR l=[]:=by unfold varsR;rw [hE,if_neg c0']
    rw [hE,hR]
    obtain ⟨⟨e',τ',σ',nt',rd'⟩,g1,g2,g3,g4⟩:=h0
    simp only at g2 g3 g4
    subst g2
    (rw [r_exhaust_Vars (lbY rfl),F_exhaust_Vars];simp (disch:=omega) only [eqZ,↓gc_len,seval,-List.reduceReplicate,reduceCtorEq,allP,k0_exhaust_Vars,g1,g3,g4,List.length_map])
  · have c0':=of_eq_true c0
    rw [if_pos c0'] at h0
    have hw:=varsX_ok c0'
    have he:(if (!l.isEmpty)=true then 2 else 0)=2∨varsX l=[]:=by
      cases l with
      | nil=>exact .inr rfl
      | cons a l=>exact .inl rfl
    have h2:=l2_xVars (if (!l.isEmpty)=true then 2 else 0) (varsX l) he hw (by omega)
    have hE1:varsE l=if dupA (varsX l) (varsX l) 0=true then 12 else if 16<sumW (varsX l) then 7 else 0:=by unfold varsE;rw [if_neg (by simpa using c0')]
    have hvx:compV (isort ltNW (allVs l))=varsX l:=rfl
    rw [hvx] at hc
    simp only [e_x2] at h2
    have h1':loopAt P L1_exhaust_Vars [(7,.sl 0 0),(25,.p (.lst (l.map Term.row))),(26,.p (.int .i64 l.length)),(27,.p (.int .i64 0))] [.pv 0 [] false] 68 none=_:=h1
    generalize allVs l=A at *
    have hln:∀ (e:Nat) (K:List V2),lenSV [.gone,.pv e (K.map vrow) false] (.sl 1 K.length)=some (.p (.int .i64 (K.length:Int))):=fun e K=>by simp [lenSV,lenS,slen,AE.Obj.len]
    simp only [sY] at h2
    cases hd:dupA (varsX l) (varsX l) 0 with
    | true=>
      have hE:varsE l=12:=by rw [hE1,hd,if_pos rfl]
      have hR:varsR l=[]:=by unfold varsR;rw [hE,if_neg (by decide)]
      rw [hd,if_pos rfl] at h2
      rw [hE,hR]
      obtain ⟨⟨e',τ',σ',nt',rd'⟩,g1,g2,g3,g4⟩:=h2
      simp only at g2 g3 g4
      subst g2
      generalize varsX l=K at *
      (rw [r_exhaust_Vars (lbY rfl),F_exhaust_Vars];simp (disch:=omega) only [eqZ,↓gc_len,seval,-List.reduceReplicate,reduceCtorEq,allP,k0_exhaust_Vars,h0,B0_exhaust_Vars,Int.lt_irrefl,List.length_map,k1_exhaust_Vars,h1',B1_exhaust_Vars,hs,hc,hln,k2_exhaust_Vars,g1,g3,g4])
    | false=>
      rw [hd,if_neg (by simp)] at h2
      rcases Classical.propComplete (16<sumW (varsX l)) with c3 | c3
      · have hE:varsE l=7:=by rw [hE1,hd,if_neg (by simp),if_pos (of_eq_true c3)]
        have hR:varsR l=[]:=by unfold varsR;rw [hE,if_neg (by decide)]
        rw [hE,hR]
        generalize varsX l=K at *
        (rw [r_exhaust_Vars (lbY rfl),F_exhaust_Vars];simp (disch:=omega) only [eqZ,↓gc_len,seval,-List.reduceReplicate,reduceCtorEq,allP,k0_exhaust_Vars,h0,B0_exhaust_Vars,Int.lt_irrefl,List.length_map,k1_exhaust_Vars,h1',B1_exhaust_Vars,hs,hc,hln,k2_exhaust_Vars,h2,B2_exhaust_Vars,c3])
      · have hE:varsE l=0:=by rw [hE1,hd,if_neg (by simp),if_neg (of_eq_false c3)]
        have hR:varsR l=varsX l:=by unfold varsR;rw [hE,if_pos rfl]
        rw [hE,hR]
        generalize varsX l=K at *
        have hpu:∀ (d:Nat) (e:Nat),purify [.gone,.pv e (K.map vrow) false] (d+1) (.sl 1 K.length)=some (.lst (K.map vrow)):=fun d e=>by simp [purify]
        (rw [r_exhaust_Vars (lbY rfl),F_exhaust_Vars];simp (disch:=omega) only [eqZ,↓gc_len,seval,-List.reduceReplicate,reduceCtorEq,allP,k0_exhaust_Vars,h0,B0_exhaust_Vars,Int.lt_irrefl,List.length_map,k1_exhaust_Vars,h1',B1_exhaust_Vars,hs,hc,hln,k2_exhaust_Vars,h2,B2_exhaust_Vars,c3,hpu])
end Go.AE.S
