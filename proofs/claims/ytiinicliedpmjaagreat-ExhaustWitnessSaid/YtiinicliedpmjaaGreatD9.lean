import Derived.Test.YtiinicliedpmjaaGreatD8
import Derived.Test.YtiinicliedpmjaaGreatC1
namespace Go.AE.S
open Go Go.AE
set_option linter.unusedSimpArgs false
set_option linter.unusedVariables false
def idxV (n:ByteArray):List V2→Option Nat
  | []=>none
  | v :: r=>if v.name=n then some 0 else (idxV n r).map (· + 1)
theorem idx_get (n:ByteArray):∀ (l:List V2) (i:Nat),idxV n l=some i→∃ a,l[i]? = some a∧a.name=n
  | [],i,h=>by cases h
  | v :: r,i,h=>by
    unfold idxV at h
    split at h
    · rename_i hn
      cases h
      exact ⟨v,rfl,hn⟩
    · rw [Option.map_eq_some_iff] at h
      obtain ⟨j,hj,rfl⟩:=h
      obtain ⟨a,ha,hn⟩:=idx_get n r j hj
      exact ⟨a,by simpa using ha,hn⟩
theorem idx_some (n:ByteArray):∀ l:List V2,(idxV n l).isSome=l.any fun a=>decide (a.name=n)
  | []=>rfl
  | v :: r=>by
    unfold idxV
    by_cases h:v.name=n
    · simp [h]
    · simp only [h,if_false,Option.isSome_map,idx_some n r,List.any_cons,decide_false,Bool.false_or]
theorem idx_app (n:ByteArray) (v:V2):∀ p:List V2,idxV n (p++[v])=match idxV n p with | some i=>some i | none=>if v.name=n then some p.length else none
  | []=>by simp only [List.nil_append,idxV];split<;>rfl
  | a :: p=>by
    simp only [List.cons_append,idxV]
    by_cases h:a.name=n
    · simp only [h,if_true]
    · simp only [h,if_false,idx_app n v p]
      cases idxV n p with
      | some i=>rfl
      | none=>
        by_cases h2:v.name=n
        · simp [h2]
        · simp [h2]
def InvP (p:List V2) (m:Seen):Prop:=∀ n,lkW m n=Option.map (fun i:Nat=>(i:Int)) (idxV n p)
def plF (i:Nat) (m:Seen) (v:V2):Seen ⊕ Unit:=if (lkW m v.name).isSome=true then .inr () else .inl (stW v.name i m)
theorem fold_pl:∀ (r p:List V2) (m:Seen),InvP p m→if dupQ sameN p r=true then foldE plF p.length m r=.inr () else ∃ m',foldE plF p.length m r=.inl m'∧InvP (p++r) m'
  | [],p,m,h=>by
    rw [if_neg (by simp [dupQ])]
    exact ⟨m,rfl,by simpa using h⟩
  | v :: r,p,m,h=>by
    have hs:(lkW m v.name).isSome=p.any (sameN v):=by
      rw [h v.name,Option.isSome_map,idx_some]
      congr 1
      funext a
      unfold sameN
      rw [decide_eq_decide]
      exact ⟨Eq.symm,Eq.symm⟩
    simp only [dupQ,foldE,plF,hs]
    cases ha:p.any (sameN v) with
    | true=>simp
    | false=>
      simp only [Bool.false_eq_true,if_false,Bool.false_or]
      have hi:InvP (p++[v]) (stW v.name p.length m):=by
        intro n
        rw [lk_stW,idx_app]
        have hn:idxV v.name p=none:=by
          have:=hs
          rw [ha,h v.name,Option.isSome_map] at this
          cases hx:idxV v.name p with
          | none=>rfl
          | some i=>rw [hx] at this;simp at this
        by_cases he:n=v.name
        · subst he
          rw [if_pos rfl,hn]
          simp
        · rw [if_neg he,h n]
          cases idxV n p with
          | some i=>rfl
          | none=>
            have:¬ v.name=n:=fun e=>he e.symm
            simp [this]
      have:=fold_pl r (p++[v]) _ hi
      rw [List.length_append] at this
      simpa using this
def okIx (l:List V2) (v:V2):Bool:=match idxV v.name l with
  | some i=>(match l[i]? with | some a=>decide (a.w=v.w) | none=>false)
  | none=>false
theorem okIx_cons {a v:V2} {l:List V2}:okIx (a :: l) v=if a.name=v.name then decide (a.w=v.w) else okIx l v:=by
  unfold okIx
  simp only [idxV]
  by_cases h:a.name=v.name
  · simp [h]
  · simp only [h,if_false]
    cases idxV v.name l with
    | none=>rfl
    | some i=>simp
theorem dup_tail {q:V2→V2→Bool}:∀ (r p:List V2),dupQ q p r=false→∀ a∈p,∀ b∈r,q b a=false
  | [],p,_,a,_,b,hb=>by simp at hb
  | v :: r,p,h,a,ha,b,hb=>by
    simp only [dupQ,Bool.or_eq_false_iff] at h
    rcases List.mem_cons.1 hb with rfl | hb
    · simpa using List.any_eq_false.1 h.1 a ha
    · exact dup_tail r (p++[v]) h.2 a (by simp [ha]) b hb
theorem dup_less {q:V2→V2→Bool}:∀ (r p:List V2),dupQ q p r=false→dupQ q [] r=false
  | [],p,_=>rfl
  | v :: r,p,h=>by
    simp only [dupQ,Bool.or_eq_false_iff] at h
    simp only [dupQ,List.any_nil,Bool.false_or,List.nil_append]
    have key:∀ (r p p':List V2),(∀ a∈p',a∈p)→dupQ q p r=false→dupQ q p' r=false:=by
      intro r
      induction r with
      | nil=>intro _ _ _ _;rfl
      | cons u r ih=>
        intro p p' hs h
        simp only [dupQ,Bool.or_eq_false_iff] at h ⊢
        refine ⟨List.any_eq_false.2 fun a ha=>List.any_eq_false.1 h.1 a (hs a ha),ih (p++[u]) (p'++[u]) (fun a ha=>?_) h.2⟩
        rcases List.mem_append.1 ha with ha | ha
        · exact List.mem_append.2 (.inl (hs a ha))
        · exact List.mem_append.2 (.inr ha)
    exact key r (p++[v]) [v] (fun a ha=>List.mem_append.2 (.inr ha)) h.2
theorem ok_any:∀ (l:List V2),dupQ sameN [] l=false→∀ v,okIx l v=l.any fun a=>eqV a v
  | [],_,v=>rfl
  | a :: l,h,v=>by
    have hd:=h
    simp only [dupQ,List.any_nil,Bool.false_or,List.nil_append] at hd
    have ih:=ok_any l (dup_less l [a] hd) v
    rw [okIx_cons,List.any_cons]
    by_cases hn:a.name=v.name
    · rw [if_pos hn]
      have:l.any (fun b=>eqV b v)=false:=by
        refine List.any_eq_false.2 fun b hb=>?_
        have:=dup_tail l [a] hd a (by simp) b hb
        unfold sameN at this
        have:=of_decide_eq_false this
        unfold eqV
        have hne:¬ b.name=v.name:=fun e=>this (by rw [e,hn])
        simp [hne]
      rw [this,Bool.or_false]
      unfold eqV
      simp [hn]
    · rw [if_neg hn,ih]
      unfold eqV
      simp [hn]
def sumsN (c:Nat):List V2→List Nat
  | []=>[]
  | v :: r=>c :: sumsN (c+v.w.toNat) r
theorem sumsN_len:∀ (l:List V2) (c:Nat),(sumsN c l).length=l.length
  | [],c=>rfl
  | v :: l,c=>by simp [sumsN,sumsN_len l]
theorem look_ix (n:ByteArray) (K:Nat):∀ (l:List V2) (c:Nat),lookB n (assignT (K / 2^c) l)=match idxV n l with
    | some i=>(match l[i]?,(sumsN c l)[i]? with | some a,some s=>some (K / 2^s % 2^cw a.w) | _,_=>none)
    | none=>none
  | [],c=>rfl
  | v :: l,c=>by
    simp only [assignT,lookB,idxV,sumsN]
    by_cases h:v.name=n
    · simp [h]
    · simp only [h,if_false]
      have hd:K / 2^c / 2^v.w.toNat=K / 2^(c+v.w.toNat):=by rw [Nat.div_div_eq_div_mul,Nat.pow_add]
      rw [hd,look_ix n K l (c+v.w.toNat)]
      cases idxV n l with
      | none=>rfl
      | some i=>simp
def envT (l:List V2) (K:Nat) (n:ByteArray):Nat:=match idxV n l with
  | some i=>K / 2^((sumsN 0 l).getD i 0)
  | none=>0
theorem envT_W (l:List V2) {K:Nat} (h:W K) (n:ByteArray):W (envT l K n):=by
  unfold envT
  split
  · exact Nat.lt_of_le_of_lt (Nat.div_le_self _ _) h
  · show 0<_;omega
theorem val_tab {t:Term} {l:List V2} (hk:checkT t=0) (hb:boundV t l=true) (K:Nat):t.valT (envT l K)=t.valT (envB (assignT K l)):=by
  refine val_env _ _ t fun u hu h1=>?_
  unfold boundV at hb
  rw [Bool.and_eq_true,Bool.not_eq_true',Bool.not_eq_true',List.any_eq_false] at hb
  obtain ⟨v,hv,hn⟩:=vars_of hu h1
  have hw:=vars_w hk hu h1 hv hn
  have hx:=hb.2 v hv
  simp only [Bool.not_eq_true',Bool.not_eq_false] at hx
  rw [← ok_any l hb.1 v] at hx
  unfold okIx at hx
  unfold envB envT
  have hl:=look_ix u.name K l 0
  rw [Nat.pow_zero,Nat.div_one] at hl
  rw [hl]
  rw [hn] at hx
  cases hi:idxV u.name l with
  | none=>rfl
  | some i=>
    rw [hi] at hx
    obtain ⟨a,ha,_⟩:=idx_get _ l i hi
    simp only [ha] at hx
    have hwa:=of_decide_eq_true hx
    have hil:i<(sumsN 0 l).length:=by rw [sumsN_len];exact (List.getElem?_eq_some_iff.1 ha).1
    have hs:(sumsN 0 l)[i]? = some ((sumsN 0 l)[i]):=List.getElem?_eq_getElem hil
    simp only [ha,hs,List.getD_eq_getElem?_getD,Option.getD_some,hwa,hw,Nat.mod_mod]
def totF (i:Nat) (s:Int×List Int) (v:V2):(Int×List Int) ⊕ Unit:=if 16<s.1+v.w then .inr () else .inl (s.1+v.w,s.2.set i s.1)
theorem bits_stop (n:Int) (h:16<n):∀ l:List V2,bitsN n l=n
  | []=>rfl
  | v :: l=>by unfold bitsN;rw [if_neg (by omega)]
theorem fold_tot:∀ (r:List V2) (p:List Int) (c:Nat),(∀ v∈r,okV2 v)→(c:Int)≤16→if 16<bitsN c r then foldE totF p.length ((c:Int),p++List.replicate r.length 0) r=.inr () else foldE totF p.length ((c:Int),p++List.replicate r.length 0) r=.inl (bitsN c r,p++(sumsN c r).map fun (x:Nat)=>(x:Int))
  | [],p,c,_,hc=>by
    have:¬ 16<bitsN (c:Int) []:=by show ¬ 16<(c:Int);omega
    rw [if_neg this]
    simp [foldE,bitsN,sumsN]
  | v :: r,p,c,h,hc=>by
    have hv:=h v (by simp)
    unfold okV2 at hv
    have hb:bitsN (c:Int) (v :: r)=bitsN ((c:Int)+v.w) r:=by rw [bitsN,if_pos hc]
    have hcw:((c+v.w.toNat:Nat):Int)=(c:Int)+v.w:=by omega
    rw [hb]
    by_cases h16:16<(c:Int)+v.w
    · rw [bits_stop _ h16,if_pos h16]
      simp only [foldE,totF,h16,if_true]
    · have ih:=fold_tot r (p++[(c:Int)]) (c+v.w.toNat) (fun a ha=>h a (by simp [ha])) (by omega)
      rw [hcw] at ih
      have hset:(p++List.replicate (v :: r).length 0).set p.length (c:Int)=(p++[(c:Int)])++List.replicate r.length 0:=by
        rw [List.set_append_right _ _ (by omega),Nat.sub_self,List.length_cons,List.replicate_succ,List.set_cons_zero]
        simp
      have e8:(p++[(c:Int)]).length=p.length+1:=by simp
      rw [e8] at ih
      simp only [foldE,totF,h16,if_false,hset]
      split
      · rename_i hh;rw [if_pos hh] at ih;exact ih
      · rename_i hh
        rw [if_neg hh] at ih
        rw [ih]
        simp [sumsN]
variable {τ:Tm} {σ:Store} {rd:Option Nat}
abbrev sT8 (m:Seen):Store:=[.map (m.map entW) false,.av 1 [[.map 0]] false]
abbrev e_t0 (t:Term) (l:List V2) (i:Int):List (Nat×AV):=[(1,.p (.lst (l.map vrow))),(2,.p (.ptr t.row 0)),(7,.ptr 1 1 0 0),(30,.p (.lst (l.map vrow))),(31,.p (.int .i64 l.length)),(32,.p (.int .i64 i))]
def outT (r:Ex×St):Prop:=r.1=.ret∧r.2.τ.get 4=.nils∧r.2.τ.get 5=.p (.int .i64 12)
theorem al_v:allocV 2 (eagers [.p (.str (bs [])),.p (.int .i64 0)] σ)=some (.ptr σ.length 1 0 0,σ++[.pv 2 [[.str (bs []),.int .i64 0]] false]):=rfl
theorem st_v {o o1:Obj} {r:List PV} {v:V2} {fr:Bool}:storeV [o,o1,.pv 2 [[.str (bs []),.int .i64 0]] false] 2 (.ptr 2 1 0 0) (.p (.agg (vrow v)))=some [o,o1,.pv 2 [vrow v] false]:=rfl
theorem ld_v0 {v:V2} {fr:Bool}:ldO 1 0 0 1 false (some (.pv 2 [vrow v] fr))=some (.p (.str v.name)):=rfl
theorem ld_v1 {v:V2} {fr:Bool}:ldO 1 0 1 1 false (some (.pv 2 [vrow v] fr))=some (.p (.int .i64 v.w)):=rfl
set_option maxHeartbeats 4000000 in
theorem l0_Table (t:Term) (l:List V2) (hl:l.length≤40):if dupQ sameN [] l=true then ∃ r,loopAt P L0_eval_Table (e_t0 t l 0) (sT8 []) 129 none=some r∧outT r else ∃ m,InvP l m∧loopAt P L0_eval_Table (e_t0 t l 0) (sT8 []) 129 none=back P [1,2,7,30,31,32] B0_eval_Table 2 (exec P B0_eval_Table ⟨tm (e_t0 t l l.length),sT8 m,129,none⟩):=by
  have h:=loop_to (P:=P) (nt:=129) (lv:=[1,2,7,30,31,32]) (b:=B0_eval_Table) (rd:=none) (as:=l) (fun i (_:Seen)=>e_t0 t l i) sT8 plF (fun (_:Unit)=>outT) (fun _ _=>True)
    (fun i v m hv hi hs=>by
      refine ⟨fun _ _=>trivial,?_⟩
      have hlt:((i:Int)<l.length)=True:=by simpa using hi
      have hx:=fun σ=>v_iadr (k:=.i64) (es:=2) (σ:=σ) (map_get (f:=vrow) hv) (vr_len v)
      have hlk:=fun (r:Store) (z:AV)=>look_0 (fr:=false) (r:=r) (z:=z) (kl:=.str) (k:=.str v.name) rfl (find_entW v.name m)
      unfold plF
      cases hk:lkW m v.name with
      | none=>
        rw [hk] at hlk
        simp only [Option.map_none,Option.getD_none,Option.isSome_none] at hlk
        have hm:=fun (r:Store)=>mupd_0 (r:=r) (kl:=.str) (k:=.str v.name) rfl (set_entW v.name i m)
        simp only [B0_eval_Table,Option.isSome_none,Bool.false_eq_true,if_false]
        simp (disch:=omega) only [eqZ,↓gc_len,seval,-List.reduceReplicate,reduceCtorEq,allP,hlt,hx,List.length_map,vr_ld,al_v,st_v,ld_v0,ldM,hlk,hm,below_entW,e_t0,sT8]
      | some w=>
        rw [hk] at hlk
        simp only [Option.map_some,Option.getD_some,Option.isSome_some] at hlk
        simp only [B0_eval_Table,Option.isSome_some,if_true]
        simp (disch:=omega) only [eqZ,↓gc_len,seval,-List.reduceReplicate,reduceCtorEq,allP,hlt,hx,List.length_map,vr_ld,al_v,st_v,ld_v0,ldM,hlk,below_entW,e_t0,sT8,outT]) (fun i s=>rfl) [] trivial
  have hf:=fold_pl l [] [] (fun n=>rfl)
  rw [List.length_nil] at hf
  cases hb:dupQ sameN [] l with
  | true=>
    rw [hb,if_pos rfl] at hf
    rw [hf] at h
    rw [if_pos rfl]
    exact h
  | false=>
    rw [hb,if_neg (by simp)] at hf
    obtain ⟨m,hf,hi⟩:=hf
    rw [hf] at h
    rw [if_neg (by simp)]
    exact ⟨m,hi,h.2⟩
abbrev e_t1 (t:Term) (l V:List V2) (i:Int):List (Nat×AV):=[(1,.p (.lst (l.map vrow))),(2,.p (.ptr t.row 0)),(7,.ptr 1 1 0 0),(51,.p (.lst (V.map vrow))),(52,.p (.int .i64 V.length)),(53,.p (.int .i64 i))]
theorem v_ini {v:V2}:initV σ 2 true (some ((vrow v).map .p))=some (.p (.ptr (vrow v) 0),σ):=rfl
theorem v_cel {v:V2}:cellsOf 2 true (.p (.agg (vrow v)))=some ((vrow v).map .p):=rfl
set_option maxHeartbeats 4000000 in
theorem l1_Table (t:Term) (l V:List V2) (m:Seen) (hm:InvP l m) (hV:V.length≤1000000) (hl:l.length≤40):if V.any (fun v=>!okIx l v)=true then ∃ r,loopAt P L1_eval_Table (e_t1 t l V 0) (sT8 m) 129 none=some r∧outT r else loopAt P L1_eval_Table (e_t1 t l V 0) (sT8 m) 129 none=back P [1,2,7,51,52,53] B1_eval_Table 2 (exec P B1_eval_Table ⟨tm (e_t1 t l V V.length),sT8 m,129,none⟩):=by
  have h:=loop_to (P:=P) (nt:=129) (lv:=[1,2,7,51,52,53]) (b:=B1_eval_Table) (rd:=none) (as:=V) (fun i (_:Unit)=>e_t1 t l V i) (fun _=>sT8 m) (fun _ _ v=>if (fun v=>!okIx l v) v=true then .inr () else .inl ()) (fun (_:Unit)=>outT) (fun _ _=>True)
    (fun i v s hv hi hs=>by
      refine ⟨fun _ _=>trivial,?_⟩
      have hlt:((i:Int)<V.length)=True:=by simpa using hi
      have hx:=fun σ=>v_iadr (k:=.i64) (es:=2) (σ:=σ) (map_get (f:=vrow) hv) (vr_len v)
      have hlk:=fun (r:Store) (z:AV)=>look_0 (fr:=false) (r:=r) (z:=z) (kl:=.str) (k:=.str v.name) rfl (find_entW v.name m)
      rw [hm v.name] at hlk
      cases hk:idxV v.name l with
      | none=>
        have hok:okIx l v=false:=by unfold okIx;rw [hk]
        rw [hk] at hlk
        simp only [Option.map_none,Option.getD_none,Option.isSome_none] at hlk
        simp only [B1_eval_Table]
        simp (disch:=omega) only [eqZ,↓gc_len,seval,-List.reduceReplicate,reduceCtorEq,allP,hlt,hx,List.length_map,vr_ld,v_cel,v_ini,vr_f0,vr_g0,ldM,hlk,hok,e_t1,sT8,outT,Bool.not_false,if_true]
      | some j=>
        rw [hk] at hlk
        simp only [Option.map_some,Option.getD_some,Option.isSome_some] at hlk
        obtain ⟨a,ha,hn⟩:=idx_get _ l j hk
        have hy:=fun σ=>v_iadr (k:=.i64) (es:=2) (σ:=σ) (map_get (f:=vrow) ha) (vr_len a)
        rcases Classical.propComplete (a.w=v.w) with h1 | h1
        · have hok:okIx l v=true:=by unfold okIx;rw [hk];simp only [ha,h1,decide_true]
          simp only [B1_eval_Table]
          simp (disch:=omega) only [eqZ,↓gc_len,seval,-List.reduceReplicate,reduceCtorEq,allP,hlt,hx,hy,List.length_map,vr_ld,v_cel,v_ini,vr_f0,vr_g0,vr_f1,vr_g1,ldM,hlk,hok,h1,e_t1,sT8,outT,Bool.not_true,Bool.false_eq_true,if_false]
        · have hok:okIx l v=false:=by unfold okIx;rw [hk];simp only [ha,h1,decide_false]
          simp only [B1_eval_Table]
          simp (disch:=omega) only [eqZ,↓gc_len,seval,-List.reduceReplicate,reduceCtorEq,allP,hlt,hx,hy,List.length_map,vr_ld,v_cel,v_ini,vr_f0,vr_g0,vr_f1,vr_g1,ldM,hlk,hok,h1,e_t1,sT8,outT,Bool.not_false,if_true]) (fun i s=>rfl) () trivial
  rw [fold_any] at h
  cases hb:V.any (fun v=>!okIx l v) with
  | true=>rw [hb,if_pos rfl] at h;rw [if_pos rfl];exact h
  | false=>rw [hb,if_neg (by simp)] at h;rw [if_neg (by simp)];exact h.2
abbrev e_t2 (t:Term) (l:List V2) (i:Int):List (Nat×AV):=[(1,.p (.lst (l.map vrow))),(2,.p (.ptr t.row 0)),(7,.ptr 1 1 0 0),(16,.p (.int .i64 0)),(77,.p (.lst (l.map vrow))),(78,.p (.int .i64 l.length)),(79,.p (.int .i64 i))]
def outT3 (x:Int) (r:Ex×St):Prop:=r.1=.ret∧r.2.τ.get 4=.nils∧r.2.τ.get 5=.p (.int .i64 x)
set_option maxHeartbeats 4000000 in
theorem l2_Table (t:Term) (l:List V2) (m:Seen) (hl:l.length≤40):if l.any badW=true then ∃ r,loopAt P L2_eval_Table (e_t2 t l 0) (sT8 m) 129 none=some r∧outT3 3 r else loopAt P L2_eval_Table (e_t2 t l 0) (sT8 m) 129 none=back P [1,2,7,16,77,78,79] B2_eval_Table 2 (exec P B2_eval_Table ⟨tm (e_t2 t l l.length),sT8 m,129,none⟩):=by
  have h:=loop_to (P:=P) (nt:=129) (lv:=[1,2,7,16,77,78,79]) (b:=B2_eval_Table) (rd:=none) (as:=l) (fun k (_:Unit)=>e_t2 t l k) (fun _=>sT8 m) (fun _ _ v=>if badW v=true then .inr () else .inl ()) (fun (_:Unit)=>outT3 3) (fun _ _=>True)
    (fun i v s hv hi hs=>by
      refine ⟨fun _ _=>trivial,?_⟩
      have hlt:((i:Int)<l.length)=True:=by simpa using hi
      have hx:=fun σ=>v_iadr (k:=.i64) (es:=2) (σ:=σ) (map_get (f:=vrow) hv) (vr_len v)
      unfold badW
      rcases Classical.propComplete (v.w<1) with h1 | h1
      · simp only [B2_eval_Table,h1]
        simp (disch:=omega) only [eqZ,↓gc_len,seval,-List.reduceReplicate,reduceCtorEq,allP,hlt,hx,List.length_map,vr_ld,v_cel,v_ini,vr_f1,vr_g1,h1,Bool.true_or,Bool.false_or,if_true,if_false,Bool.false_eq_true,e_t2,sT8,outT3]
      · rcases Classical.propComplete (64<v.w) with h2 | h2
        · have h3:(v.w > 64)=True:=h2
          simp only [B2_eval_Table,h1,h2]
          simp (disch:=omega) only [eqZ,↓gc_len,seval,-List.reduceReplicate,reduceCtorEq,allP,hlt,hx,List.length_map,vr_ld,v_cel,v_ini,vr_f1,vr_g1,h1,h2,h3,Bool.true_or,Bool.false_or,if_true,if_false,Bool.false_eq_true,e_t2,sT8,outT3]
        · have h3:(v.w > 64)=False:=h2
          simp only [B2_eval_Table,h1,h2]
          simp (disch:=omega) only [eqZ,↓gc_len,seval,-List.reduceReplicate,reduceCtorEq,allP,hlt,hx,List.length_map,vr_ld,v_cel,v_ini,vr_f1,vr_g1,h1,h2,h3,Bool.true_or,Bool.false_or,if_true,if_false,Bool.false_eq_true,e_t2,sT8,outT3]) (fun i s=>rfl) () trivial
  rw [fold_any] at h
  cases hb:l.any badW with
  | true=>rw [hb,if_pos rfl] at h;rw [if_pos rfl];exact h
  | false=>rw [hb,if_neg (by simp)] at h;rw [if_neg (by simp)];exact h.2
abbrev sT9 (m:Seen) (n:Nat) (low:List Int):Store:=[.map (m.map entW) false,.av 1 [[.map 0]] false,.pv 1 (low.map irow) false,.av 1 [[.sl 2 n]] false]
abbrev e_t3 (t:Term) (l:List V2) (tot i:Int):List (Nat×AV):=[(2,.p (.ptr t.row 0)),(7,.ptr 1 1 0 0),(16,.p (.int .i64 tot)),(19,.ptr 3 1 0 0),(95,.p (.lst (l.map vrow))),(96,.p (.int .i64 l.length)),(97,.p (.int .i64 i))]
theorem st_v4 {o o1 o2 o3:Obj} {v:V2}:storeV [o,o1,o2,o3,.pv 2 [[.str (bs []),.int .i64 0]] false] 2 (.ptr 4 1 0 0) (.p (.agg (vrow v)))=some [o,o1,o2,o3,.pv 2 [vrow v] false]:=rfl
theorem ld_sl3 {o o1 o2 o4:Obj} {n:Nat}:loadV [o,o1,o2,.av 1 [[.sl 2 n]] false,o4] 1 false (.ptr 3 1 0 0)=some (.sl 2 n):=rfl
set_option maxHeartbeats 4000000 in
theorem l3_Table (t:Term) (l:List V2) (m:Seen) (hw:∀ v∈l,okV2 v) (hl:l.length≤40):if 16<bitsN 0 l then ∃ r,loopAt P L3_eval_Table (e_t3 t l 0 0) (sT9 m l.length (List.replicate l.length 0)) 129 none=some r∧outT3 7 r else loopAt P L3_eval_Table (e_t3 t l 0 0) (sT9 m l.length (List.replicate l.length 0)) 129 none=back P [2,7,16,19,95,96,97] B3_eval_Table 4 (exec P B3_eval_Table ⟨tm (e_t3 t l (bitsN 0 l) l.length),sT9 m l.length ((sumsN 0 l).map fun (x:Nat)=>(x:Int)),129,none⟩):=by
  have h:=loop_to (P:=P) (nt:=129) (lv:=[2,7,16,19,95,96,97]) (b:=B3_eval_Table) (rd:=none) (as:=l) (fun i (s:Int×List Int)=>e_t3 t l s.1 i) (fun s=>sT9 m l.length s.2) totF (fun (_:Unit)=>outT3 7) (fun _ s=>0≤s.1∧s.1≤16∧s.2.length=l.length)
    (fun i v s hv hi hs=>by
      obtain ⟨tot,low⟩:=s
      obtain ⟨h0,h1,h2⟩:=hs
      simp only at h0 h1 h2
      have hlt:((i:Int)<l.length)=True:=by simpa using hi
      have hx:=fun σ=>v_iadr (k:=.i64) (es:=2) (σ:=σ) (map_get (f:=vrow) hv) (vr_len v)
      have hok:=hw v (List.mem_of_getElem? hv)
      unfold okV2 at hok
      have hwr:IntKind.i64.wrap (tot+v.w)=tot+v.w:=IntWalk.i64_in _ (by omega)
      have hia:iadrSV [.map (m.map entW) false,.av 1 [[.map 0]] false,.pv 1 (low.map irow) false,.av 1 [[.sl 2 l.length]] false,.pv 2 [vrow v] false] 1 (.sl 2 l.length) (.p (.int .i64 i))=some (.ptr 2 l.length i 0):=ia_pv rfl (by simp [h2]) hi
      have hst:=st_pv1 (σ:=[.map (m.map entW) false,.av 1 [[.map 0]] false,.pv 1 (low.map irow) false,.av 1 [[.sl 2 l.length]] false,.pv 2 [vrow v] false]) (b:=2) (m:=l.length) (e:=1) (j:=i) (rows:=low.map irow) (v:=.int .i64 tot) (by simp [h2]) (by simp [irow]) hi
      have hset:(low.map irow).set i [.int .i64 tot]=(low.set i tot).map irow:=by
        rw [List.map_set];rfl
      rw [hset] at hst
      rcases Classical.propComplete (16<tot+v.w) with c | c
      · have c2:(tot+v.w > 16)=True:=c
        refine ⟨fun s' he=>?_,?_⟩
        · simp only [totF,c,if_true] at he;cases he
        · simp only [B3_eval_Table,totF,c,if_true]
          simp (disch:=omega) only [eqZ,↓gc_len,seval,-List.reduceReplicate,reduceCtorEq,allP,hlt,hx,List.length_map,vr_ld,al_v,st_v4,ld_sl3,hia,hst,ld_v1,hwr,c2,e_t3,sT9,outT3]
      · have c2:(tot+v.w > 16)=False:=c
        refine ⟨fun s' he=>?_,?_⟩
        · simp only [totF,c,if_false,Sum.inl.injEq] at he
          subst he
          have:=of_eq_false c
          exact ⟨by simp only;omega,by simp only;omega,by simp [h2]⟩
        · simp only [B3_eval_Table,totF,c,if_false]
          simp (disch:=omega) only [eqZ,↓gc_len,seval,-List.reduceReplicate,reduceCtorEq,allP,hlt,hx,List.length_map,vr_ld,al_v,st_v4,ld_sl3,hia,hst,ld_v1,hwr,c2,below_entW,e_t3,sT9]) (fun i s=>rfl) (0,List.replicate l.length 0) ⟨by simp,by simp,by simp⟩
  have hf:=fold_tot l [] 0 hw (by decide)
  rw [List.length_nil,List.nil_append,show ((0:Nat):Int)=0 from rfl] at hf
  split
  · rename_i hb
    rw [if_pos hb] at hf
    have hf':foldE totF 0 (0,List.replicate l.length 0) l=.inr ():=hf
    rw [hf'] at h
    exact h
  · rename_i hb
    rw [if_neg hb] at hf
    have hf':foldE totF 0 (0,List.replicate l.length 0) l=.inl (bitsN 0 l,(sumsN 0 l).map fun (x:Nat)=>(x:Int)):=hf
    rw [hf'] at h
    exact h.2
def entX (e:ByteArray×Int):PV×PV:=(.str e.1,.int .i64 e.2)
theorem find_X (k:ByteArray):∀ s:Seen,findKey .str (.str k) (s.map entX)=some ((lkW s k).map fun w=>.int .i64 w)
  | []=>rfl
  | e :: r=>by
    simp only [List.map_cons,findKey,entX,eq_str,lkW]
    by_cases h:k=e.1
    · simp [h]
    · simp only [h,decide_false,if_false]
      exact find_X k r
theorem s_Table1 (u:Term) (l:List V2) (m:Seen) (hm:InvP l m) (hw:∀ v∈l,okV2 v) (hb:bitsN 0 l≤16) (K:Nat) (hK:K<65536) (hu:(idxV u.name l).isSome=true):R P f_eval_Table_1 [.agg u.row,.ptr [.int .i64 K] 0,.ptr [.lst (((sumsN 0 l).map fun (x:Nat)=>(x:Int)).map irow)] 0,.ptr [.pmap (m.map entX)] 0]=some (.int .u64 (envT l K u.name:Int)):=by
  cases hi:idxV u.name l with
  | none=>rw [hi] at hu;cases hu
  | some i=>
    obtain ⟨a,ha,_⟩:=idx_get _ l i hi
    have hl:=fun (σ:Store) (z:AV)=>look_p (σ:=σ) (z:=z) (kl:=.str) (k:=.str u.name) rfl (find_X u.name m)
    rw [hm u.name,hi] at hl
    simp only [Option.map_some,Option.getD_some] at hl
    have hil:i<(sumsN 0 l).length:=by rw [sumsN_len];exact (List.getElem?_eq_some_iff.1 ha).1
    have hs:((sumsN 0 l).map fun (x:Nat)=>(x:Int))[i]? = some (((sumsN 0 l)[i]:Nat):Int):=by simp [hil]
    have hle:∀ (r:List V2) (c:Nat),(∀ v∈r,okV2 v)→bitsN c r≤16→∀ x∈sumsN c r,x≤16:=by
      intro r
      induction r with
      | nil=>intro c _ _ x hx;simp [sumsN] at hx
      | cons v r ih=>
        intro c h h16 x hx
        have hv:=h v (by simp)
        unfold okV2 at hv
        have hc:(c:Int)≤16:=Int.not_lt.1 fun hlt=>by rw [bits_stop _ hlt] at h16;omega
        have hb:bitsN (c:Int) (v :: r)=bitsN ((c:Int)+v.w) r:=by rw [bitsN,if_pos hc]
        have hcw:((c+v.w.toNat:Nat):Int)=(c:Int)+v.w:=by omega
        rcases List.mem_cons.1 hx with rfl | hx
        · omega
        · exact ih (c+v.w.toNat) (fun a ha=>h a (by simp [ha])) (by rw [hcw,← hb];exact h16) x hx
    have hx16:=hle l 0 hw hb _ (List.getElem_mem hil)
    have hix:=fun σ=>v_iadr (k:=.i64) (es:=1) (σ:=σ) (map_get (f:=irow) hs) (by simp [irow])
    have hcv:IntKind.u64.wrap (K:Int)=K:=IntWalk.u64_in _ (by omega)
    have hsh:=n_shr (k:=.i64) (a:=K) (n:=(sumsN 0 l)[i]) (by omega)
    have hE:envT l K u.name=K / 2^(sumsN 0 l)[i]:=by
      unfold envT
      rw [hi]
      simp only [List.getD_eq_getElem?_getD,List.getElem?_eq_getElem hil,Option.getD_some]
    rw [hE]
    (rw [r_eval_Table_1 (lbY rfl),F_eval_Table_1];simp (disch:=omega) only [eqZ,↓gc_len,seval,-List.reduceReplicate,reduceCtorEq,allP,hl,hix,irow,hcv,hsh])
end Go.AE.S
