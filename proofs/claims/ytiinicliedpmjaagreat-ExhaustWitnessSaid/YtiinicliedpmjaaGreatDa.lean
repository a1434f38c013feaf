import Derived.Test.YtiinicliedpmjaaGreatD9
namespace Go.AE.S
open Go Go.AE
set_option linter.unusedSimpArgs false
set_option linter.unusedVariables false
variable {τ:Tm} {σ:Store} {rd:Option Nat}
abbrev lowI (l:List V2):List Int:=(sumsN 0 l).map fun (x:Nat)=>(x:Int)
abbrev sTa (m:Seen) (l:List V2) (s:List Nat):Store:=[.map (m.map entW) false,.av 1 [[.map 0]] false,.pv 1 ((lowI l).map irow) false,.av 1 [[.sl 2 l.length]] false,.pv 1 (s.map urow) false]
abbrev e_t4 (t:Term) (b:Nat) (s:List Nat) (i:Int):List (Nat×AV):=[(2,.p (.ptr t.row 0)),(7,.ptr 1 1 0 0),(19,.ptr 3 1 0 0),(22,.sl 4 s.length),(117,.p (.int .i64 ((2^b:Nat):Int))),(118,.p (.int .i64 i))]
theorem idx_bound {t:Term} {l:List V2} (h:boundV t l=true) {u:Term} (hu:u∈t.post) (h1:u.op=1):(idxV u.name l).isSome=true:=by
  have:=bound_assign h 0
  unfold boundB at this
  rw [List.all_eq_true] at this
  have:=this u hu
  simp only [h1,not_true_eq_false,decide_false,Bool.false_or] at this
  rw [look_assign] at this
  rw [idx_some]
  exact this
theorem src_41 {o0 o1 o2 o3 o4:Obj} {r:List PV} {fr:Bool}:srcOf [o0,o1,o2,o3,o4,.pv 1 [r] fr] 1 (.sl 5 1)=some (.inl [r]):=src_sl rfl rfl (.inl rfl)
theorem gc_56 {vs:List AV} {a b c d e f:Obj}:gc 5 vs [a,b,c,d,e,f]=if gcOk 5 vs [a,b,c,d,e,f]=true then [a,b,c,d,e] else [a,b,c,d,e,f]:=by unfold gc;rw [if_neg (by simp)];rfl
theorem ini_k {k:Int}:initV σ 1 true (some [.p (.int .i64 k)])=some (.p (.ptr [.int .i64 k] 0),σ):=rfl
set_option maxHeartbeats 8000000 in
theorem l4_Table (t:Term) (ht:TOk t) (hc:t.count≤1000000) (hk:checkT t=0) (l:List V2) (m:Seen) (hm:InvP l m) (hb:boundV t l=true) (hw:∀ v∈l,okV2 v) (h16:bitsN 0 l≤16) (b:Nat) (hb8:b≤16) :
    loopAt P L4_eval_Table (e_t4 t b [] 0) (sTa m l []) 129 none=back P [2,7,19,22,117,118] B4_eval_Table 5 (exec P B4_eval_Table ⟨tm (e_t4 t b (tabV t l b) ((2^b:Nat):Int)),sTa m l (tabV t l b),129,none⟩):=by
  have hp:(2:Nat)^b≤65536:=Nat.pow_le_pow_right (show 0<2 by omega) hb8
  obtain ⟨_,h⟩:=loop_run (P:=P) (nt:=129) (lv:=[2,7,19,22,117,118]) (b:=B4_eval_Table) (rd:=none) (as:=List.range (2^b)) (fun i (s:List Nat)=>e_t4 t b s i) (sTa m l) (fun _ s k=>s++[t.valT (envB (assignT k l))]) (fun i s=>s.length=i)
    (fun i k s hki hi hs=>by
      rw [List.length_range] at hi
      have hke:k=i:=by
        rw [List.getElem?_range hi] at hki
        exact (Option.some.inj hki).symm
      subst hke
      have hlt:((k:Int)<((2^b:Nat):Int))=True:=by simp only [eq_iff_iff,iff_true];exact Int.ofNat_lt.2 hi
      have hval:=s_eval_valueX f_eval_Table_1 [.ptr [.int .i64 k] 0,.ptr [.lst ((lowI l).map irow)] 0,.ptr [.pmap (m.map entX)] 0] (envT l k) (envT_W l (by show k<_;omega)) t (fun u hu σ h1=>by
        have h9:=s_Table1 u l m hm hw h16 k (by omega) (idx_bound hb hu h1)
        simp (disch:=omega) only [eqZ,↓gc_len,seval,-List.reduceReplicate,reduceCtorEq,allP,q_eval_Table_1,h9]) (check_all hk) ht hc
      rw [val_tab hk hb] at hval
      have hpm:∀ q,purify (sTa m l s) (q+4) (.fn f_eval_Table_1 [.p (.ptr [.int .i64 k] 0),.ptr 3 1 0 0,.ptr 1 1 0 0])=some (.fn f_eval_Table_1 [.ptr [.int .i64 k] 0,.ptr [.lst ((lowI l).map irow)] 0,.ptr [.pmap (m.map entX)] 0]):=by
        intro q
        have key:∀ (f:PV×AV→Option (PV×PV)) (s:Seen),(∀ b,f (entW b)=some (entX b))→omap f (s.map entW)=some (s.map entX):=by
          intro f s hf
          induction s with
          | nil=>rfl
          | cons b s ih=>simp only [List.map_cons,omap,hf];rw [ih]
        have hlen:((lowI l).map irow).length=l.length:=by simp [lowI,sumsN_len]
        simp only [purify,omap,sTa,List.getElem?_cons_zero,List.getElem?_cons_succ,List.length_cons,List.length_nil,Nat.zero_add,if_true,Option.bind_some,hlen,Option.map_some]
        rw [key _ _ (fun b=>rfl)]
        rfl
      have hwr:IntKind.i64.wrap ((k:Int)+1)=((k+1:Nat):Int):=IntWalk.i64_in _ (by omega)
      have hap:=v_append (σ:=sTa m l s++[.pv 1 [[.int .u64 (t.valT (envB (assignT k l)):Int)]] false]) (b:=4) (n:=s.length) (e:=1) (es:=1) (bytes:=8) (rows:=s.map urow) (new:=[[.int .u64 (t.valT (envB (assignT k l)):Int)]]) rfl (by simp) (.inl rfl) (by simp only [List.length_cons,List.length_nil];omega)
      simp only [sTa,List.cons_append,List.nil_append] at hap hpm
      refine ⟨by simp [hs],?_⟩
      simp only [B4_eval_Table]
      simp (disch:=omega) only [eqZ,↓gc_len,seval,-List.reduceReplicate,reduceCtorEq,allP,hlt,ini_k,mkFn,hpm,q_eval_value,hval,bsl_u,src_41,hap,hwr,gc_56,below_entW,List.map_append,List.length_append,urow,e_t4,sTa]) (fun i s=>rfl) [] rfl _ (fold_snoc (fun k=>t.valT (envB (assignT k l))) (List.range (2^b)) 0 [])
  rw [List.nil_append,List.length_range] at h
  exact h
theorem mk_low {n:Nat} (h:n≤40):mksliceV σ 1 8 [.p (.int .i64 0)] (.p (.int .i64 n)) (.p (.int .i64 n))=some (.sl σ.length n,σ++[.pv 1 ((List.replicate n (0:Int)).map irow) false]):=by
  have:=mk_pv (σ:=σ) (k:=.i64) (es:=1) (bytes:=8) (n:=n) (zero:=[.p (.int .i64 0)]) (z:=[.int .i64 0]) rfl (by omega)
  rw [this,List.map_replicate]
  rfl
theorem mk_out {n:Nat} (h:n≤65536):mksliceV σ 1 8 [.p (.int .u64 0)] (.p (.int .i64 0)) (.p (.int .i64 n))=some (.sl σ.length 0,σ++[.pv 1 [] false]):=by
  have hb:n*8≤140737488355328:=by omega
  simp [mksliceV,natOf,allP,hb]
theorem ini_sl {n:Nat}:initV σ 1 true (some [.sl 2 n])=some (.ptr σ.length 1 0 0,σ++[.av 1 [[.sl 2 n]] false]):=rfl
theorem cel_sl {n:Nat}:cellsOf 1 false (.sl 2 n)=some [.sl 2 n]:=rfl
theorem shl_i {b:Nat} (h:b≤16):arithV .shl (.p (.int .i64 1)) (.p (.int .i64 (b:Int)))=some (.p (.int .i64 ((2^b:Nat):Int))):=by
  have:b=0∨b=1∨b=2∨b=3∨b=4∨b=5∨b=6∨b=7∨b=8∨b=9∨b=10∨b=11∨b=12∨b=13∨b=14∨b=15∨b=16:=by omega
  rcases this with rfl | rfl | rfl | rfl | rfl | rfl | rfl | rfl | rfl | rfl | rfl | rfl | rfl | rfl | rfl | rfl | rfl<;>rfl
def tableP (t:Term) (l:List V2) (b:Nat):List PV:=if tabE t l=0 then [.lst ((tabV t l b).map urow),.int .i64 0] else [.lst [],.int .i64 (tabE t l)]
theorem pur_4 (k:Nat) {o0 o1 o2 o3:Obj} (rows:List (List PV)) (e:Nat) (fr:Bool):purify [o0,o1,o2,o3,.pv e rows fr] (k+1) (.sl 4 rows.length)=some (.lst rows):=by simp [purify]
set_option maxHeartbeats 16000000 in
theorem n_Table (t:Term) (ht:TOk t) (hc:t.count≤1000000) (l:List V2) (hl:l.length≤40) (b:Nat) (hb:tabE t l=0→bitsV l=b∧b≤16):R P f_eval_Table [.agg t.row,.lst (l.map vrow)]=some (.tup (tableP t l b)):=by
  have hk:=s_term_Check t ht hc
  unfold tableP
  rcases Classical.propComplete (checkT t=0) with c0 | c0
  rotate_left
  · have hE:tabE t l=checkT t:=by unfold tabE;rw [if_pos (of_eq_false c0)]
    rw [hE,if_neg (of_eq_false c0)]
    (rw [r_eval_Table (lbY rfl),F_eval_Table];simp (disch:=omega) only [eqZ,↓gc_len,seval,-List.reduceReplicate,reduceCtorEq,allP,q_term_Check,hk,c0])
  have hk0:checkT t=0:=of_eq_true c0
  rw [hk0] at hk
  have hv:=s_term_Vars t hc
  have hV:=vars_len t
  have h0:=l0_Table t l hl
  have hE1:tabE t l=if boundV t l=false then 12 else if l.any badW=true then 3 else if 16<bitsV l then 7 else 0:=by unfold tabE;rw [if_neg (by simpa using hk0)]
  have h0e:∀ x:Ex×St,loopAt P L0_eval_Table (e_t0 t l 0) (sT8 []) 129 none=some x→loopAt P L0_eval_Table [(1,.p (.lst (l.map vrow))),(2,.p (.ptr t.row 0)),(7,.ptr 1 1 0 0),(30,.p (.lst (l.map vrow))),(31,.p (.int .i64 l.length)),(32,.p (.int .i64 0))] [.map [] false,.av 1 [[.map 0]] false] 129 none=some x:=fun _ h=>h
  cases hd:dupQ sameN [] l with
  | true=>
    have hbd:boundV t l=false:=by unfold boundV;rw [hd];rfl
    have e:tabE t l=12:=by rw [hE1,if_pos hbd]
    rw [e,if_neg (by decide)]
    rw [hd,if_pos rfl] at h0
    obtain ⟨⟨e',τ',σ',nt',rd'⟩,g1,g2,g3,g4⟩:=h0
    simp only at g2 g3 g4
    subst g2
    have g1':=h0e _ g1
    (rw [r_eval_Table (lbY rfl),F_eval_Table];simp (disch:=omega) only [eqZ,↓gc_len,seval,-List.reduceReplicate,reduceCtorEq,allP,q_term_Check,hk,k0_eval_Table,g1',g3,g4,List.length_map])
  | false=>
    rw [hd,if_neg (by simp)] at h0
    obtain ⟨m,hm,h0⟩:=h0
    have h0':loopAt P L0_eval_Table [(1,.p (.lst (l.map vrow))),(2,.p (.ptr t.row 0)),(7,.ptr 1 1 0 0),(30,.p (.lst (l.map vrow))),(31,.p (.int .i64 l.length)),(32,.p (.int .i64 0))] [.map [] false,.av 1 [[.map 0]] false] 129 none=_:=h0
    have h1:=l1_Table t l (varsT t) m hm (by omega) hl
    have hok:(varsT t).any (fun v=>!okIx l v) = !boundV t l:=by
      unfold boundV
      rw [hd]
      simp only [Bool.not_false,Bool.true_and,Bool.not_not]
      congr 1
      funext v
      rw [ok_any l hd v]
    rw [hok] at h1
    have h2:=l2_Table t l m hl
    simp only [e_t1,sT8] at h1
    simp only [e_t2,sT8] at h2
    cases hbd:boundV t l with
    | false=>
      have e:tabE t l=12:=by rw [hE1,if_pos hbd]
      rw [e,if_neg (by decide)]
      rw [hbd,Bool.not_false,if_pos rfl] at h1
      generalize varsT t=V at *
      obtain ⟨⟨e',τ',σ',nt',rd'⟩,g1,g2,g3,g4⟩:=h1
      simp only at g2 g3 g4
      subst g2
      (rw [r_eval_Table (lbY rfl),F_eval_Table];simp (disch:=omega) only [eqZ,↓gc_len,seval,-List.reduceReplicate,reduceCtorEq,allP,q_term_Check,hk,k0_eval_Table,h0',B0_eval_Table,Int.lt_irrefl,List.length_map,q_term_Vars,hv,k1_eval_Table,g1,g3,g4,e_t0,sT8])
    | true=>
      have hE2:tabE t l=if l.any badW=true then 3 else if 16<bitsV l then 7 else 0:=by rw [hE1,if_neg (by rw [hbd];decide)]
      rw [hbd,Bool.not_true,if_neg (by simp)] at h1
      have hvt:=val_tab hk0 hbd
      cases hbw:l.any badW with
      | true=>
        have e:tabE t l=3:=by rw [hE2,if_pos hbw]
        rw [e,if_neg (by decide)]
        rw [hbw,if_pos rfl] at h2
        generalize varsT t=V at *
        obtain ⟨⟨e',τ',σ',nt',rd'⟩,g1,g2,g3,g4⟩:=h2
        simp only at g2 g3 g4
        subst g2
        (rw [r_eval_Table (lbY rfl),F_eval_Table];simp (disch:=omega) only [eqZ,↓gc_len,seval,-List.reduceReplicate,reduceCtorEq,allP,q_term_Check,hk,k0_eval_Table,h0',B0_eval_Table,Int.lt_irrefl,List.length_map,q_term_Vars,hv,k1_eval_Table,h1,B1_eval_Table,k2_eval_Table,g1,g3,g4,e_t0,sT8])
      | false=>
        have hE3:tabE t l=if 16<bitsV l then 7 else 0:=by rw [hE2,if_neg (by rw [hbw];decide)]
        rw [hbw,if_neg (by simp)] at h2
        have hw:=badW_no hbw
        have h3:=l3_Table t l m hw hl
        simp only [e_t3,sT9] at h3
        rcases Classical.propComplete (16<bitsN 0 l) with c3 | c3
        · have c4:16<bitsV l:=by have:=of_eq_true c3;unfold bitsV;omega
          have e:tabE t l=7:=by rw [hE3,if_pos c4]
          rw [e,if_neg (by decide)]
          rw [if_pos (of_eq_true c3)] at h3
          generalize varsT t=V at *
          obtain ⟨⟨e',τ',σ',nt',rd'⟩,g1,g2,g3,g4⟩:=h3
          simp only at g2 g3 g4
          subst g2
          (rw [r_eval_Table (lbY rfl),F_eval_Table];simp (disch:=omega) only [eqZ,↓gc_len,seval,-List.reduceReplicate,reduceCtorEq,allP,q_term_Check,hk,k0_eval_Table,h0',B0_eval_Table,Int.lt_irrefl,List.length_map,q_term_Vars,hv,k1_eval_Table,h1,B1_eval_Table,k2_eval_Table,h2,B2_eval_Table,mk_low hl,cel_sl,ini_sl,k3_eval_Table,g1,g3,g4,e_t0,sT8])
        · have c4:¬ 16<bitsV l:=by have:=of_eq_false c3;unfold bitsV;omega
          have hE0:tabE t l=0:=by rw [hE3,if_neg c4]
          rw [hE0,if_pos rfl]
          rw [if_neg (of_eq_false c3)] at h3
          obtain ⟨hbb,hb8⟩:=hb hE0
          have hbn:bitsN 0 l=(b:Int):=by have:=of_eq_false c3;unfold bitsV at hbb;omega
          have h4:=l4_Table t ht hc hk0 l m hm hbd hw (by omega) b hb8
          have hp:(2:Nat)^b≤65536:=Nat.pow_le_pow_right (show 0<2 by omega) hb8
          have h4':loopAt P L4_eval_Table [(2,.p (.ptr t.row 0)),(7,.ptr 1 1 0 0),(19,.ptr 3 1 0 0),(22,.sl 4 0),(117,.p (.int .i64 ((2^b:Nat):Int))),(118,.p (.int .i64 0))] [.map (m.map entW) false,.av 1 [[.map 0]] false,.pv 1 ((lowI l).map irow) false,.av 1 [[.sl 2 l.length]] false,.pv 1 [] false] 129 none=_:=h4
          rw [hbn] at h3
          have hP:=fun k o0 o1 o2 o3=>pur_4 k (o0:=o0) (o1:=o1) (o2:=o2) (o3:=o3) ((tabV t l b).map urow) 1 false
          rw [List.length_map] at hP
          generalize varsT t=V at *
          generalize tabV t l b=vs at *
          have hmo:=fun σ=>mk_out (σ:=σ) hp
          (rw [r_eval_Table (lbY rfl),F_eval_Table];simp (disch:=omega) only [eqZ,↓gc_len,seval,-List.reduceReplicate,reduceCtorEq,allP,q_term_Check,hk,k0_eval_Table,h0',B0_eval_Table,Int.lt_irrefl,List.length_map,q_term_Vars,hv,k1_eval_Table,h1,B1_eval_Table,k2_eval_Table,h2,B2_eval_Table,mk_low hl,cel_sl,ini_sl,k3_eval_Table,h3,B3_eval_Table,shl_i hb8,hmo,k4_eval_Table,h4',B4_eval_Table,hP,e_t0,sT8,e_t4,sTa])
end Go.AE.S
