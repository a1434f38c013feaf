import Derived.Test.YtiinicliedpmjaaGreatB2
namespace Go.AE.S
open Go Go.AE
set_option linter.unusedSimpArgs false
set_option linter.unusedVariables false
variable {τ:Tm} {σ:Store} {rd:Option Nat}
theorem s_opinfo_Pattern (o:Int):R P f_opinfo_Pattern [.int .i64 o]=some (.bool (decide (24≤o∧o≤26))):=by
  (rw [r_opinfo_Pattern (lbY rfl),F_opinfo_Pattern];simp (disch:=omega) only [eqZ,↓gc_len,seval,-List.reduceReplicate,reduceCtorEq,allP])
  by_cases h1:24≤o<;>by_cases h2:o≤26<;>simp (disch:=omega) only [eqZ,↓gc_len,seval,-List.reduceReplicate,reduceCtorEq,allP,h1,h2]<;>rfl
theorem l_r06_Name (s:ByteArray) (hl:s.size≤16):if s.data.toList.all nameC=true then True ∧
      loopAt P L0_r06_Name (e_NameR s 0) σ 56 rd=back P [0,3] B0_r06_Name σ.length (exec P B0_r06_Name ⟨tm (e_NameR s s.size),σ,56,rd⟩)
    else ∃ r,loopAt P L0_r06_Name (e_NameR s 0) σ 56 rd=some r∧ret1 2 (.bool false) σ r:=by
  have h:=loop_to (P:=P) (nt:=56) (lv:=[0,3]) (b:=B0_r06_Name) (rd:=rd) (as:=s.data.toList) (fun i (_:Unit)=>e_NameR s i) (fun _=>σ) (fun i _ a=>if nameC a=true then .inl () else .inr ())
    (fun _=>ret1 2 (.bool false) σ) (fun _ _=>True)
    (fun i a _ ha hi hs=>by
      refine ⟨fun _ _=>trivial,?_⟩
      rw [size_list] at hi
      have hlt:((i:Int)<s.size)=True:=by simpa using hi
      have hix:=v_idx (k:=.i64) ha
      by_cases h1:(97:Int)≤a.toNat<;>by_cases h2:(a.toNat:Int)≤122<;>by_cases h3:(48:Int)≤a.toNat<;>by_cases h4:(a.toNat:Int)≤57<;>by_cases h5:(a.toNat:Int)=95
      all_goals first
        | (exfalso;omega)
        | (have hn:nameC a=true:=by unfold nameC;rw [decide_eq_true_eq];omega
           have g1:((a.toNat:Int)<97)=(¬ (97:Int)≤a.toNat):=by simp
           have g2:((122:Int)<a.toNat)=(¬ (a.toNat:Int)≤122):=by simp
           have g3:((a.toNat:Int)<48)=(¬ (48:Int)≤a.toNat):=by simp
           have g4:((57:Int)<a.toNat)=(¬ (a.toNat:Int)≤57):=by simp
           simp only [B0_r06_Name]
           simp (disch:=omega) only [eqZ,↓gc_len,seval,-List.reduceReplicate,reduceCtorEq,allP,hlt,hix,g1,g2,g3,g4,h1,h2,h3,h4,eq_true h5,hn,ret1]
           done)
        | (have hn:nameC a=false:=by unfold nameC;rw [decide_eq_false_iff_not];omega
           have g1:((a.toNat:Int)<97)=(¬ (97:Int)≤a.toNat):=by simp
           have g2:((122:Int)<a.toNat)=(¬ (a.toNat:Int)≤122):=by simp
           have g3:((a.toNat:Int)<48)=(¬ (48:Int)≤a.toNat):=by simp
           have g4:((57:Int)<a.toNat)=(¬ (a.toNat:Int)≤57):=by simp
           simp only [B0_r06_Name]
           simp (disch:=omega) only [eqZ,↓gc_len,seval,-List.reduceReplicate,reduceCtorEq,allP,hlt,hix,g1,g2,g3,g4,h1,h2,h3,h4,h5,hn,ret1]
           done)) (fun i s=>rfl) () trivial
  rw [size_list,fold_allG] at h
  exact (done_if h :)
theorem s_r06_Name (s:ByteArray):R P f_r06_Name [.str s]=some (.bool (nameOk s)):=by
  unfold nameOk
  by_cases h1:(s.size:Int)<1
  · (rw [r_r06_Name (lbY rfl),F_r06_Name];simp (disch:=omega) only [eqZ,↓gc_len,seval,-List.reduceReplicate,reduceCtorEq,allP,h1])
    simp [show ¬ 1≤s.size by omega]
  by_cases h2:(16:Int)<s.size
  · (rw [r_r06_Name (lbY rfl),F_r06_Name];simp (disch:=omega) only [eqZ,↓gc_len,seval,-List.reduceReplicate,reduceCtorEq,allP,h1,h2])
    simp [show ¬ s.size≤16 by omega]
  have hlen:=size_list s
  obtain ⟨b,hb⟩:∃ b,s.data.toList[0]? = some b:=⟨_,List.getElem?_eq_getElem (by omega)⟩
  have hix:=v_idx0 (k:=.i64) hb
  by_cases h3:(b.toNat:Int)<97
  · (rw [r_r06_Name (lbY rfl),F_r06_Name];simp (disch:=omega) only [eqZ,↓gc_len,seval,-List.reduceReplicate,reduceCtorEq,allP,h1,h2,hix,h3])
    simp [List.getD,hb,show ¬ 97≤b.toNat by omega]
  by_cases h4:(122:Int)<b.toNat
  · (rw [r_r06_Name (lbY rfl),F_r06_Name];simp (disch:=omega) only [eqZ,↓gc_len,seval,-List.reduceReplicate,reduceCtorEq,allP,h1,h2,hix,h3,h4])
    simp [List.getD,hb,show ¬ b.toNat≤122 by omega]
  have hL:=l_r06_Name (σ:=[]) (rd:=none) s (by omega)
  by_cases ha:s.data.toList.all nameC=true
  · rw [if_pos ha] at hL
    (rw [r_r06_Name (lbY rfl),F_r06_Name];simp (disch:=omega) only [eqZ,↓gc_len,seval,-List.reduceReplicate,reduceCtorEq,allP,h1,h2,hix,h3,h4,k0_r06_Name,hL.2,B0_r06_Name,Int.lt_irrefl])
    rw [ha]
    simp [List.getD,hb,show 97≤b.toNat by omega,show b.toNat≤122 by omega,show 1≤s.size by omega,show s.size≤16 by omega]
  · rw [if_neg ha] at hL
    obtain ⟨⟨e,τ',σ',nt',rd'⟩,h1',h2',h3',h4'⟩:=hL
    simp only at h2' h3' h4'
    subst h2';subst h4'
    (rw [r_r06_Name (lbY rfl),F_r06_Name];simp (disch:=omega) only [eqZ,↓gc_len,seval,-List.reduceReplicate,reduceCtorEq,allP,h1,h2,hix,h3,h4,k0_r06_Name,h1',h3'])
    simp only [Bool.not_eq_true] at ha
    simp [ha]
abbrev sT0 (s:List Term):Store:=[.pv (esOf 5 s) (s.map Term.row) false]
theorem s_r06_Post (t:Term):t.count≤1000000→R P f_r06_Post [.agg t.row]=some (.lst (t.post.map Term.row)):=by
  induction t using Term.ind with
  | h t ih=>
  intro hc
  have hlen:=Term.counts_len t.args
  have hct:=Term.count_eq t
  obtain ⟨hk,h⟩:=loop_run (P:=P) (nt:=24) (lv:=[1,3,4]) (b:=B0_r06_Post) (rd:=none) (as:=t.args) (fun i (s:List Term)=>e_Pre t s i) sT0 (fun i s a=>s++a.post) (fun i s=>s=(t.args.take i).flatMap Term.post)
    (fun i a s ha hi hs=>by
      have hm:=List.mem_of_getElem? ha
      have hac:=Term.counts_mem hm
      have h2:=flatMap_take_le Term.post_len t.args (i+1)
      rw [take_flatMap ha] at h2
      have hsl:(s++a.post).length≤1000001:=by rw [hs];omega
      rw [List.length_append] at hsl
      have hr:=ih a hm (by omega)
      have hlt:((i:Int)<t.args.length)=True:=by simpa using hi
      have hne:esOf 5 (s++a.post)=5:=by
        have h1:=Term.post_len a
        have h2:=Term.count_pos a
        cases hp:a.post with
        | nil=>rw [hp] at h1;simp at h1;omega
        | cons x r=>simp [esOf]
      have hap:=v_append (σ:=sT0 s) (b:=0) (n:=s.length) (e:=esOf 5 s) (es:=5) (bytes:=64) (rows:=s.map Term.row) (new:=a.post.map Term.row) rfl (by simp) (esOf_or _ _ _) (by simp only [List.length_map];omega)
      refine ⟨by rw [hs,take_flatMap ha],?_⟩
      simp only [B0_r06_Post]
      simp (disch:=omega) only [eqZ,↓gc_len,seval,-List.reduceReplicate,reduceCtorEq,allP,hlt,List.length_map,v_iadr (map_get (f:=Term.row) ha) a.row_len,q_r06_Post,hr,src_p (wide_rows _),hap,List.length_append,List.map_append,e_Pre,sT0,hne]) (fun i s=>rfl) [] (by simp) _ (fold_app Term.post t.args 0 [])
  have h':loopAt P L0_r06_Post [(1,.p (.ptr t.row 0)),(3,.sl 0 0),(4,.p (.int .i64 0))] [.pv 0 [] false] 24 none=_:=h
  have e:[]++t.args.flatMap Term.post=Term.posts t.args:=by rw [Term.posts_eq];rfl
  rw [e] at h'
  have hpl:=Term.post_len t
  rw [Term.post_eq,List.length_append] at hpl
  have hap:=v_append (σ:=[.pv (esOf 5 (Term.posts t.args)) ((Term.posts t.args).map Term.row) false,.pv 5 [t.row] false]) (b:=0) (n:=(Term.posts t.args).length) (e:=esOf 5 (Term.posts t.args)) (es:=5) (bytes:=64) (rows:=(Term.posts t.args).map Term.row) (new:=[t.row]) rfl (by simp) (esOf_or _ _ _) (by simp only [List.length_cons,List.length_nil];omega)
  (rw [r_r06_Post (lbY rfl),F_r06_Post];simp (disch:=omega) only [eqZ,↓gc_len,seval,-List.reduceReplicate,reduceCtorEq,allP,k0_r06_Post,h',B0_r06_Post,Int.lt_irrefl,List.length_map,hap,List.length_append,e_Pre])
  rw [Term.post_eq,List.map_append]
  rfl
theorem s_r06_Pre (t:Term):t.count≤1000000→R P f_r06_Pre [.agg t.row]=some (.lst (t.pre.map Term.row)):=by
  induction t using Term.ind with
  | h t ih=>
  intro hc
  have hlen:=Term.counts_len t.args
  have hct:=Term.count_eq t
  obtain ⟨hk,h⟩:=loop_run (P:=P) (nt:=23) (lv:=[1,3,4]) (b:=B0_r06_Pre) (rd:=none) (as:=t.args) (fun i (s:List Term)=>e_Pre t s i) sT (fun i s a=>s++a.pre) (fun i s=>s=t :: (t.args.take i).flatMap Term.pre)
    (fun i a s ha hi hs=>by
      have hm:=List.mem_of_getElem? ha
      have hac:=Term.counts_mem hm
      have h2:=flatMap_take_le Term.pre_len t.args (i+1)
      rw [take_flatMap ha] at h2
      have hsl:(s++a.pre).length≤1000001:=by rw [hs,List.cons_append,List.length_cons];omega
      rw [List.length_append] at hsl
      have hr:=ih a hm (by omega)
      have hlt:((i:Int)<t.args.length)=True:=by simpa using hi
      have hap:=v_append (σ:=sT s) (b:=0) (n:=s.length) (e:=5) (es:=5) (bytes:=64) (rows:=s.map Term.row) (new:=a.pre.map Term.row) rfl (by simp) (.inl rfl) (by simp only [List.length_map];omega)
      refine ⟨by rw [hs,take_flatMap ha];rfl,?_⟩
      simp only [B0_r06_Pre]
      simp (disch:=omega) only [eqZ,↓gc_len,seval,-List.reduceReplicate,reduceCtorEq,allP,hlt,List.length_map,v_iadr (map_get (f:=Term.row) ha) a.row_len,q_r06_Pre,hr,src_p (wide_rows _),hap,List.length_append,List.map_append,e_Pre,sT]) (fun i s=>rfl) [t] (by simp) _ (fold_app Term.pre t.args 0 [t])
  have h':loopAt P L0_r06_Pre [(1,.p (.ptr t.row 0)),(3,.sl 0 1),(4,.p (.int .i64 0))] [.pv 5 [t.row] false] 23 none=_:=h
  have e:[t]++t.args.flatMap Term.pre=t.pre:=by rw [Term.pre_eq,Term.pres_eq];rfl
  rw [e] at h'
  (rw [r_r06_Pre (lbY rfl),F_r06_Pre];simp (disch:=omega) only [eqZ,↓gc_len,seval,-List.reduceReplicate,reduceCtorEq,allP,k0_r06_Pre,h',B0_r06_Pre,Int.lt_irrefl,List.length_map,e_Pre])
abbrev e_wid6 (l:List Term) (s:List Int) (i:Int):List (Nat×AV):=[(0,.p (.lst (l.map Term.row))),(3,.sl 0 s.length),(4,.p (.int .i64 i))]
theorem s_r06_Widths (l:List Term) (hl:l.length≤1000000):R P f_r06_Widths [.lst (l.map Term.row)]=some (.lst ((l.map Term.w).map irow)):=by
  obtain ⟨hk,h⟩:=loop_run (P:=P) (nt:=20) (lv:=[0,3,4]) (b:=B0_r06_Widths) (rd:=none) (as:=l) (fun i (s:List Int)=>e_wid6 l s i) sI (fun i s a=>s++[a.w]) (fun i s=>s.length=i)
    (fun i a s ha hi hs=>by
      have hlt:((i:Int)<l.length)=True:=by simpa using hi
      have hap:=v_append (σ:=[.pv (esOf 1 s) (s.map irow) false,.pv 1 [[.int .i64 a.w]] false]) (b:=0) (n:=s.length) (e:=esOf 1 s) (es:=1) (bytes:=8) (rows:=s.map irow) (new:=[[.int .i64 a.w]]) rfl (by simp) (esOf_or _ _ _) (by simp only [List.length_cons,List.length_nil];omega)
      refine ⟨by simp [hs],?_⟩
      simp only [B0_r06_Widths]
      simp (disch:=omega) only [eqZ,↓gc_len,seval,-List.reduceReplicate,reduceCtorEq,allP,hlt,List.length_map,v_iadr (map_get (f:=Term.row) ha) a.row_len,hap,List.length_append,List.map_append,e_wid6,sI,esOf_snoc,irow]) (fun i s=>rfl) [] (by simp) _ (fold_snoc Term.w l 0 [])
  have h':loopAt P L0_r06_Widths [(0,.p (.lst (l.map Term.row))),(3,.sl 0 0),(4,.p (.int .i64 0))] [.pv 0 [] false] 20 none=_:=h
  (rw [r_r06_Widths (lbY rfl),F_r06_Widths];simp (disch:=omega) only [eqZ,↓gc_len,seval,-List.reduceReplicate,reduceCtorEq,allP,k0_r06_Widths,h',B0_r06_Widths,Int.lt_irrefl,List.length_map,e_wid6,sI])
theorem foldl_id {α:Type}:∀ (l s:List α),l.foldl (fun s a=>s++[a]) s=s++l
  | [],s=>by simp
  | a :: l,s=>by rw [List.foldl_cons,foldl_id l];simp
theorem gc_67 {vs:List AV} {a b c d e f g:Obj}:gc 6 vs [a,b,c,d,e,f,g]=if gcOk 6 vs [a,b,c,d,e,f,g]=true then [a,b,c,d,e,f] else [a,b,c,d,e,f,g]:=by unfold gc;rw [if_neg (by simp)];rfl
abbrev sC0 (t:Term) (s:List Term):Store:=[.pv 0 [] false,.av 5 [z5 0] false,.av 5 [[.p (.int .i64 t.op),.p (.int .i64 t.w),.p (.int .u64 t.v),.p (.str t.name),.sl 3 s.length]] false,.pv (esOf 5 s) (s.map Term.row) false]
abbrev e_cp0 (t:Term) (i:Int):List (Nat×AV):=[(2,.ptr 1 1 0 0),(3,.ptr 2 1 0 0),(9,.p (.lst (t.args.map Term.row))),(10,.p (.int .i64 t.args.length)),(11,.p (.int .i64 i))]
set_option maxHeartbeats 4000000 in
theorem s_term_Copy (t:Term):t.count≤1000000→R P f_term_Copy [.agg t.row]=some (.agg t.row):=by
  induction t using Term.ind with
  | h t ih=>
  intro hc
  have hlen:=Term.counts_len t.args
  have hct:=Term.count_eq t
  obtain ⟨hk,h⟩:=loop_run (P:=P) (nt:=24) (lv:=[2,3,9,10,11]) (b:=B0_term_Copy) (rd:=none) (as:=t.args) (fun i (_:List Term)=>e_cp0 t i) (sC0 t) (fun _ s a=>s++[a]) (fun i s=>s.length=i)
    (fun i a s ha hi hs=>by
      have hm:=List.mem_of_getElem? ha
      have hac:=Term.counts_mem hm
      have hr:=ih a hm (by omega)
      have hlt:((i:Int)<t.args.length)=True:=by simpa using hi
      have hap:=v_append (σ:=sC0 t s++[.pv 5 [a.row] false]) (b:=3) (n:=s.length) (e:=esOf 5 s) (es:=5) (bytes:=64) (rows:=s.map Term.row) (new:=[a.row]) rfl (by simp) (esOf_or _ _ _) (by simp only [List.length_cons,List.length_nil];omega)
      simp only [sC0,z5,List.cons_append,List.nil_append] at hap
      refine ⟨by simp [hs],?_⟩
      simp only [B0_term_Copy]
      simp (disch:=omega) only [eqZ,↓gc_len,seval,-List.reduceReplicate,reduceCtorEq,allP,hlt,v_iadr (map_get (f:=Term.row) ha) a.row_len,q_term_Copy,hr,sC0,z5,hap,List.map_append,List.length_append,esOf_snoc,e_cp0,gc_67]) (fun i s=>rfl) [] (by simp) _ (foldE_foldl _ t.args 0 [])
  rw [foldl_id,List.nil_append] at h
  have h':loopAt P L0_term_Copy (e_cp0 t 0) [.pv 0 [] false,.av 5 [z5 0] false,.av 5 [[.p (.int .i64 t.op),.p (.int .i64 t.w),.p (.int .u64 t.v),.p (.str t.name),.sl 3 0]] false,.pv 0 [] false] 24 none=_:=h
  simp only [z5,sC0] at h'
  (rw [r_term_Copy (lbY rfl),F_term_Copy];simp (disch:=omega) only [eqZ,↓gc_len,seval,-List.reduceReplicate,reduceCtorEq,allP,List.length_map,k0_term_Copy,h',B0_term_Copy,Int.lt_irrefl,e_cp0])
  rw [Term.row_eq]
end Go.AE.S
namespace Go.AE
namespace Term
end Term
namespace S
open Go Go.AE
set_option linter.unusedSimpArgs false
set_option linter.unusedVariables false
variable {τ:Tm} {σ:Store} {rd:Option Nat}
end S
end Go.AE
namespace Go.AE.S
open Go Go.AE
set_option linter.unusedSimpArgs false
set_option linter.unusedVariables false
variable {τ:Tm} {σ:Store} {rd:Option Nat}
def cntV (t:Term) (d n:Int):Int:=if (t.deep:Int)≤d∧(t.count:Int)≤n then n-t.count else -1
def cnts (l:List Term) (d n:Int):Int:=if (Term.deeps l:Int)≤d∧(Term.counts l:Int)≤n then n-Term.counts l else -1
def cntF (d:Int) (_:Nat) (s:Int) (a:Term):Int ⊕ Unit:=if 0≤s then .inl (cntV a d s) else .inr ()
theorem fold_cnt (d:Int) (hd:0≤d):∀ (l:List Term) (i:Nat) (s:Int),0≤s→match foldE (cntF d) i s l with | .inl s'=>s'=cnts l d s | .inr _=>cnts l d s = -1
  | [],i,s,hs=>by
    have e1:Term.deeps []=0:=rfl
    have e2:Term.counts []=0:=rfl
    simp only [foldE]
    unfold cnts
    rw [if_pos (by omega)];omega
  | a :: l,i,s,hs=>by
    simp only [foldE,cntF,hs,if_true]
    by_cases h:(a.deep:Int)≤d∧(a.count:Int)≤s
    · have e:cntV a d s=s-a.count:=by unfold cntV;rw [if_pos h]
      rw [e]
      have ih:=fold_cnt d hd l (i+1) (s-a.count) (by omega)
      have e2:cnts (a :: l) d s=cnts l d (s-a.count):=by
        have e1:Term.deeps (a :: l)=max a.deep (Term.deeps l):=rfl
        have e2:Term.counts (a :: l)=a.count+Term.counts l:=rfl
        unfold cnts
        by_cases h2:(Term.deeps l:Int)≤d∧(Term.counts l:Int)≤s-a.count
        · rw [if_pos h2,if_pos (by omega)];omega
        · rw [if_neg h2,if_neg (by omega)]
      rw [e2]
      exact ih
    · have e:cntV a d s = -1:=by unfold cntV;rw [if_neg h]
      have e2:cnts (a :: l) d s = -1:=by
        have e1:Term.deeps (a :: l)=max a.deep (Term.deeps l):=rfl
        have e2:Term.counts (a :: l)=a.count+Term.counts l:=rfl
        unfold cnts
        rw [if_neg (by omega)]
      rw [e,e2]
      cases l with
      | nil=>rfl
      | cons b l=>simp only [foldE,cntF,if_neg (show ¬ (0:Int) ≤ -1 by omega)]
theorem cntV_eq (t:Term) (d n:Int) (hd:1≤d) (hn:1≤n):cntV t d n=cnts t.args (d-1) (n-1):=by
  unfold cntV cnts
  rw [Term.deep_eq,Term.count_eq]
  by_cases h:((Term.deeps t.args:Nat):Int)≤d-1∧((Term.counts t.args:Nat):Int)≤n-1
  · rw [if_pos h,if_pos (by omega)];omega
  · rw [if_neg h,if_neg (by omega)]
theorem cntV_low (t:Term) (d n:Int) (h:d<1∨n<1):cntV t d n = -1:=by
  unfold cntV
  rw [Term.deep_eq,Term.count_eq,if_neg (by omega)]
theorem cntV_in (t:Term) (d n:Int):(0≤cntV t d n∧cntV t d n≤n)∨cntV t d n = -1:=by
  unfold cntV
  split
  · left;omega
  · right;rfl
abbrev e_ct (t:Term) (d s i:Int):List (Nat×AV):=[(1,.p (.int .i64 d)),(2,.p (.int .i64 s)),(3,.p (.ptr t.row 0)),(7,.p (.int .i64 i))]
def outCt (r:Ex×St):Prop:=r.1=.exit 0∧r.2.τ.get 2=.p (.int .i64 (-1))∧r.2.σ=[]∧r.2.nt=37
theorem s_r06_count (t:Term):TOk t→∀ d n:Int,d≤1000000→n≤1000000→R P f_r06_count [.agg t.row,.int .i64 d,.int .i64 n]=some (.int .i64 (cntV t d n)):=by
  induction t using Term.ind with
  | h t ih=>
  intro ht d n hd hn
  by_cases h1:d<1
  · rw [cntV_low t d n (.inl h1)]
    (rw [r_r06_count (lbY rfl),F_r06_count];simp (disch:=omega) only [eqZ,↓gc_len,seval,-List.reduceReplicate,reduceCtorEq,allP,h1])
  by_cases h2:n<1
  · rw [cntV_low t d n (.inr h2)]
    (rw [r_r06_count (lbY rfl),F_r06_count];simp (disch:=omega) only [eqZ,↓gc_len,seval,-List.reduceReplicate,reduceCtorEq,allP,h1,h2])
  rw [cntV_eq t d n (by omega) (by omega)]
  have hlen:=ht.len
  have h:=loop_to (P:=P) (nt:=37) (lv:=[1,2,3,7]) (b:=B0_r06_count) (rd:=none) (as:=t.args) (fun i (s:Int)=>e_ct t d s i) (fun _=>[]) (cntF (d-1)) (fun _=>outCt) (fun i s=>(0≤s∧s≤1000000)∨s = -1)
    (fun i a s ha hi hs=>by
      have hm:=List.mem_of_getElem? ha
      have hlt:((i:Int)<t.args.length)=True:=by simpa using hi
      have hw:IntKind.i64.wrap (d-1)=d-1:=IntWalk.i64_in _ (by omega)
      unfold cntF
      by_cases h0:0≤s
      · have hr:=ih a hm (ht.args hm) (d-1) s (by omega) (by omega)
        have hin:=cntV_in a (d-1) s
        simp only [h0,if_true]
        refine ⟨fun s' he=>(by simp only [Sum.inl.injEq] at he;subst he;omega),?_⟩
        simp only [B0_r06_count]
        simp (disch:=omega) only [eqZ,↓gc_len,seval,-List.reduceReplicate,reduceCtorEq,allP,hlt,h0,hw,List.length_map,v_iadr (map_get (f:=Term.row) ha) a.row_len,q_r06_count,hr,e_ct]
      · have hs1:s = -1:=by omega
        subst hs1
        refine ⟨fun s' he=>(by simp at he),?_⟩
        simp only [B0_r06_count]
        simp (disch:=omega) only [eqZ,↓gc_len,seval,-List.reduceReplicate,reduceCtorEq,allP,hlt,h0,List.length_map,e_ct,outCt]) (fun i s=>rfl) (n-1) (by omega)
  have hw1:IntKind.i64.wrap (n-1)=n-1:=IntWalk.i64_in _ (by omega)
  have hf:=fold_cnt (d-1) (by omega) t.args 0 (n-1) (by omega)
  cases hfe:foldE (cntF (d-1)) 0 (n-1) t.args with
  | inr _=>
    rw [hfe] at h hf
    obtain ⟨⟨e,τ',σ',nt',rd'⟩,g1,g2,g3,g4,g5⟩:=h
    simp only at g2 g3 g4 g5 hf
    subst g2;subst g4;subst g5
    have h':loopAt P L0_r06_count (e_ct t d (n-1) 0) [] 37 none=_:=g1
    simp only [e_ct] at h'
    rw [hf]
    (rw [r_r06_count (lbY rfl),F_r06_count];simp (disch:=omega) only [eqZ,↓gc_len,seval,-List.reduceReplicate,reduceCtorEq,allP,h1,h2,hw1,k0_r06_count,h',g3])
  | inl s'=>
    rw [hfe] at h hf
    simp only at hf
    obtain ⟨hk,g1⟩:=h
    have h':loopAt P L0_r06_count (e_ct t d (n-1) 0) [] 37 none=_:=g1
    simp only [e_ct] at h'
    rw [← hf]
    (rw [r_r06_count (lbY rfl),F_r06_count];simp (disch:=omega) only [eqZ,↓gc_len,seval,-List.reduceReplicate,reduceCtorEq,allP,h1,h2,hw1,k0_r06_count,h',B0_r06_count,Int.lt_irrefl,List.length_map])
def measV (t:Term) (n d:Int):List PV:=if (t.deep:Int)≤d∧(t.count:Int)≤n then [.int .i64 (n-t.count),.bool true] else [.int .i64 0,.bool false]
def mF (d:Int) (_:Nat) (s:Int) (a:Term):Int ⊕ Unit:=if (a.deep:Int)≤d∧(a.count:Int)≤s then .inl (s-a.count) else .inr ()
theorem fold_m (d:Int):∀ (l:List Term) (i:Nat) (s:Int),foldE (mF d) i s l=if (((Term.deeps l:Nat):Int)≤d∧((Term.counts l:Nat):Int)≤s)∨l=[] then .inl (s-Term.counts l) else .inr ()
  | [],i,s=>by
    have e2:Term.counts []=0:=rfl
    rw [if_pos (.inr rfl),e2]
    simp [foldE]
  | a :: l,i,s=>by
    have e1:Term.deeps (a :: l)=max a.deep (Term.deeps l):=rfl
    have e2:Term.counts (a :: l)=a.count+Term.counts l:=rfl
    have hne:¬ a :: l=[]:=by simp
    simp only [foldE,mF]
    by_cases h:(a.deep:Int)≤d∧(a.count:Int)≤s
    · simp only [h,and_self,if_true]
      rw [fold_m d l (i+1)]
      by_cases h2:l=[]
      · subst h2
        have e3:Term.deeps []=0:=rfl
        have e4:Term.counts []=0:=rfl
        rw [if_pos (.inr rfl),if_pos (.inl (by omega))]
        congr 1;omega
      · by_cases h3:((Term.deeps l:Nat):Int)≤d∧((Term.counts l:Nat):Int)≤s-a.count
        · rw [if_pos (.inl h3),if_pos (.inl (by omega))]
          congr 1;omega
        · rw [if_neg (fun h=>h.elim h3 h2),if_neg (fun h=>h.elim (fun h=>h3 (by omega)) hne)]
    · rw [if_neg h,if_neg (fun h'=>h'.elim (fun h'=>h (by omega)) hne)]
abbrev e_ms (t:Term) (d s i:Int):List (Nat×AV):=[(1,.p (.int .i64 s)),(2,.p (.int .i64 d)),(21,.p (.lst (t.args.map Term.row))),(22,.p (.int .i64 t.args.length)),(23,.p (.int .i64 i))]
def outMs (r:Ex×St):Prop:=r.1=.ret∧r.2.τ.get 6=.p (.int .i64 0)∧r.2.τ.get 7=.p (.bool false)∧r.2.σ=[]
theorem s_term_measure (t:Term):TOk t→∀ n d:Int,d≤1000000→n≤1000000→R P f_term_measure [.agg t.row,.int .i64 n,.int .i64 d]=some (.tup (measV t n d)):=by
  induction t using Term.ind with
  | h t ih=>
  intro ht n d hd hn
  have hde:=Term.deep_eq t
  have hco:=Term.count_eq t
  by_cases h1:n<1
  · have e:measV t n d=[.int .i64 0,.bool false]:=by unfold measV;rw [if_neg (by omega)]
    rw [e]
    (rw [r_term_measure (lbY rfl),F_term_measure];simp (disch:=omega) only [eqZ,↓gc_len,seval,-List.reduceReplicate,reduceCtorEq,allP,h1])
  by_cases h2:d<1
  · have e:measV t n d=[.int .i64 0,.bool false]:=by unfold measV;rw [if_neg (by omega)]
    rw [e]
    (rw [r_term_measure (lbY rfl),F_term_measure];simp (disch:=omega) only [eqZ,↓gc_len,seval,-List.reduceReplicate,reduceCtorEq,allP,h1,h2])
  have hlen:=ht.len
  have h:=loop_to (P:=P) (nt:=40) (lv:=[1,2,21,22,23]) (b:=B0_term_measure) (rd:=none) (as:=t.args) (fun i (s:Int)=>e_ms t d s i) (fun _=>[]) (mF (d-1)) (fun _=>outMs) (fun i s=>0≤s∧s≤1000000)
    (fun i a s ha hi hs=>by
      have hm:=List.mem_of_getElem? ha
      have hlt:((i:Int)<t.args.length)=True:=by simpa using hi
      have hw:IntKind.i64.wrap (d-1)=d-1:=IntWalk.i64_in _ (by omega)
      have hr:=ih a hm (ht.args hm) s (d-1) (by omega) (by omega)
      unfold mF
      unfold measV at hr
      by_cases h0:(a.deep:Int)≤d-1∧(a.count:Int)≤s
      · rw [if_pos h0] at hr
        rw [if_pos h0]
        refine ⟨fun s' he=>(by simp only [Sum.inl.injEq] at he;subst he;omega),?_⟩
        simp only [B0_term_measure]
        simp (disch:=omega) only [eqZ,↓gc_len,seval,-List.reduceReplicate,reduceCtorEq,allP,hlt,hw,v_iadr (map_get (f:=Term.row) ha) a.row_len,q_term_measure,hr,e_ms]
      · rw [if_neg h0] at hr
        rw [if_neg h0]
        refine ⟨fun s' he=>(by simp at he),?_⟩
        simp only [B0_term_measure]
        simp (disch:=omega) only [eqZ,↓gc_len,seval,-List.reduceReplicate,reduceCtorEq,allP,hlt,hw,v_iadr (map_get (f:=Term.row) ha) a.row_len,q_term_measure,hr,e_ms,outMs]) (fun i s=>rfl) (n-1) (by omega)
  have hw1:IntKind.i64.wrap (n-1)=n-1:=IntWalk.i64_in _ (by omega)
  rw [fold_m] at h
  by_cases hc:((Term.deeps t.args:Nat):Int)≤d-1∧((Term.counts t.args:Nat):Int)≤n-1∨t.args=[]
  · rw [if_pos hc] at h
    obtain ⟨hk,g1⟩:=h
    have h':loopAt P L0_term_measure (e_ms t d (n-1) 0) [] 40 none=_:=g1
    simp only [e_ms] at h'
    have e:measV t n d=[.int .i64 (n-1-Term.counts t.args),.bool true]:=by
      unfold measV
      have hd0:t.args=[]→Term.deeps t.args=0∧Term.counts t.args=0:=fun h=>by rw [h];exact ⟨rfl,rfl⟩
      rw [if_pos (by rcases hc with hc | hc;omega;have:=hd0 hc;omega)]
      congr 2;omega
    rw [e]
    (rw [r_term_measure (lbY rfl),F_term_measure];simp (disch:=omega) only [eqZ,↓gc_len,seval,-List.reduceReplicate,reduceCtorEq,allP,h1,h2,hw1,List.length_map,k0_term_measure,h',B0_term_measure,Int.lt_irrefl])
  · rw [if_neg hc] at h
    obtain ⟨⟨e,τ',σ',nt',rd'⟩,g1,g2,g3,g4,g5⟩:=h
    simp only at g2 g3 g4 g5
    subst g2;subst g5
    have h':loopAt P L0_term_measure (e_ms t d (n-1) 0) [] 40 none=_:=g1
    simp only [e_ms] at h'
    have e:measV t n d=[.int .i64 0,.bool false]:=by
      unfold measV
      rw [if_neg (by simp only [not_or] at hc;omega)]
    rw [e]
    (rw [r_term_measure (lbY rfl),F_term_measure];simp (disch:=omega) only [eqZ,↓gc_len,seval,-List.reduceReplicate,reduceCtorEq,allP,h1,h2,hw1,List.length_map,k0_term_measure,h',g3,g4])
def lightV (t:Term) (d n:Int):List PV:=if (t.deep:Int)≤d∧(t.count:Int)≤n then [.agg t.row,.bool true] else [.agg zT.row,.bool false]
theorem s_r06_Light (t:Term) (ht:TOk t) (d n:Int) (hd:d≤1000000) (hn:n≤1000000):R P f_r06_Light [.agg t.row,.int .i64 d,.int .i64 n]=some (.tup (lightV t d n)):=by
  have h:=s_r06_count t ht d n hd hn
  unfold lightV
  by_cases hc:(t.deep:Int)≤d∧(t.count:Int)≤n
  · have h0:(cntV t d n<0)=False:=by unfold cntV;rw [if_pos hc];simp;omega
    rw [if_pos hc]
    (rw [r_r06_Light (lbY rfl),F_r06_Light];simp (disch:=omega) only [eqZ,↓gc_len,seval,-List.reduceReplicate,reduceCtorEq,allP,q_r06_count,h,h0,z5])
  · have h0:(cntV t d n<0)=True:=by unfold cntV;rw [if_neg hc];simp
    rw [if_neg hc]
    (rw [r_r06_Light (lbY rfl),F_r06_Light];simp (disch:=omega) only [eqZ,↓gc_len,seval,-List.reduceReplicate,reduceCtorEq,allP,q_r06_count,h,h0,z5])
    simp [zT_row]
theorem fold_set {α β:Type} (g:α→β):∀ (l:List α) (k:Nat) (s:List β),k+l.length=s.length→foldE (T:=Empty) (fun i s a=>.inl (s.set i (g a))) k s l=.inl (s.take k++l.map g)
  | [],k,s,h=>by simp only [foldE,List.map_nil,List.append_nil];rw [List.take_of_length_le (by simp at h;omega)]
  | a :: l,k,s,h=>by
    simp only [foldE]
    rw [fold_set g l (k+1) (s.set k (g a)) (by simp at h ⊢;omega)]
    congr 1
    simp only [List.length_cons] at h
    rw [List.take_set,List.map_cons]
    have hk:k<s.length:=by omega
    have:(s.take (k+1)).set k (g a)=s.take k++[g a]:=by
      rw [List.take_succ_eq_append_getElem hk,List.set_append_right _ _ (by rw [List.length_take];omega),List.length_take,Nat.min_eq_left (by omega),Nat.sub_self]
      rfl
    rw [this];simp
theorem fold_set0 {α β:Type} (g:α→β) (l:List α) (s:List β) (h:l.length=s.length):foldE (T:=Empty) (fun i s a=>.inl (s.set i (g a))) 0 s l=.inl (l.map g):=by
  rw [fold_set g l 0 s (by omega)];rfl
theorem ia_pv {b m es j:Nat} {rows:List (List PV)} {fr:Bool} {σ:Store} (h:σ[b]? = some (.pv es rows fr)) (hl:rows.length=m) (hj:j<m):iadrSV σ es (.sl b m) (.p (.int .i64 j))=some (.ptr b m j 0):=by
  unfold iadrSV
  simp [natOf,svec,h,Obj.dims,hl,hj]
theorem st_pv1 {σ:Store} {b m e j:Nat} {rows:List (List PV)} {v:PV} (hl:rows.length=m) (hw:∀ x∈rows,x.length=1) (hj:j<m):stO σ b m j 0 [.p v] (some (.pv e rows false))=some (σ.set b (.pv e (rows.set j [v]) false)):=by
  have hg:rows[j]? = some rows[j]:=List.getElem?_eq_getElem (by omega)
  have h5:(rows[j]'(by omega)).length=1:=hw _ (List.getElem_mem _)
  have hp:putPart 0 [v] (rows[j]'(by omega))=some [v]:=by
    unfold putPart
    rw [h5,if_pos (by simp)]
    simp [List.drop_of_length_le,h5]
  simp only [stO,hl,if_true,hg,Option.bind_some,allP,Option.map_some,hp]
theorem ldT_1 {t:Term} {fr:Bool}:ldO 1 0 1 1 false (some (.pv 5 [t.row] fr))=some (.p (.int .i64 t.w)):=by rw [Term.row_eq];rfl
abbrev e_tw (l:List Term) (i:Int):List (Nat×AV):=[(3,.sl 0 l.length),(9,.p (.lst (l.map Term.row))),(10,.p (.int .i64 l.length)),(11,.p (.int .i64 i))]
theorem s_term_widths (l:List Term) (hl:l.length≤1000000):R P f_term_widths [.lst (l.map Term.row)]=some (.lst ((l.map Term.w).map irow)):=by
  obtain ⟨hk,h⟩:=loop_run (P:=P) (nt:=23) (lv:=[3,9,10,11]) (b:=B0_term_widths) (rd:=none) (as:=l) (fun i (_:List (List PV))=>e_tw l i) (fun s=>[.pv 1 s false]) (fun i s a=>s.set i (irow a.w)) (fun i s=>s.length=l.length∧∀ x∈s,x.length=1)
    (fun i a s ha hi hs=>by
      obtain ⟨hs1,hs2⟩:=hs
      have hlt:((i:Int)<l.length)=True:=by simpa using hi
      have hia:=fun (o1 o2:Obj)=>ia_pv (σ:=[.pv 1 s false,o1,o2]) (b:=0) (m:=l.length) (j:=i) rfl hs1 hi
      have hst:=fun (σ:Store)=>st_pv1 (σ:=σ) (b:=0) (m:=l.length) (e:=1) (j:=i) (v:=.int .i64 a.w) hs1 hs2 hi
      refine ⟨⟨by simp [hs1],fun x hx=>?_⟩,?_⟩
      · rcases List.mem_or_eq_of_mem_set hx with hx | rfl
        · exact hs2 x hx
        · rfl
      · simp only [B0_term_widths]
        simp (disch:=omega) only [eqZ,↓gc_len,seval,-List.reduceReplicate,reduceCtorEq,allP,hlt,List.length_map,v_iadr (map_get (f:=Term.row) ha) a.row_len,e_tw,hia,hst,irow,ldT_1]) (fun i s=>rfl) (List.replicate l.length [.int .i64 0]) ⟨by simp,fun x hx=>by rw [(List.mem_replicate.1 hx).2];rfl⟩ _ (fold_set0 (fun a:Term=>irow a.w) l _ (by simp))
  have h':loopAt P L0_term_widths (e_tw l 0) [.pv 1 (List.replicate l.length [.int .i64 0]) false] 23 none=_:=h
  simp only [e_tw] at h'
  have hm:=fun (σ:Store)=>mk_pv (σ:=σ) (k:=.i64) (es:=1) (bytes:=8) (n:=l.length) (zero:=[.p (.int .i64 0)]) (z:=[.int .i64 0]) rfl (by omega)
  (rw [r_term_widths (lbY rfl),F_term_widths];simp (disch:=omega) only [eqZ,↓gc_len,seval,-List.reduceReplicate,reduceCtorEq,allP,List.length_map,hm,k0_term_widths,h',B0_term_widths,Int.lt_irrefl])
  simp [Function.comp_def]
theorem allP_map:∀ ps:List PV,allP (ps.map AV.p)=some ps
  | []=>rfl
  | a :: r=>by simp only [List.map_cons,allP,allP_map r,Option.map_some]
end Go.AE.S
