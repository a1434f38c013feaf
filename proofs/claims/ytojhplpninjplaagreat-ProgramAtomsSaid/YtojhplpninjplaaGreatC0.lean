import Derived.Test.YtojhplpninjplaaGreatB2
namespace Go.AE.S
open Go Go.AE
set_option linter.unusedSimpArgs false
set_option linter.unusedVariables false
variable {τ:Tm} {σ:Store} {rd:Option Nat}
theorem s_opinfo_Pattern (o:Int):R P f_opinfo_Pattern [.int .i64 o]=some (.bool (decide (24≤o∧o≤26))):=by
  (rw [r_opinfo_Pattern (lbY rfl),F_opinfo_Pattern];simp (disch:=omega) only [eqZ,↓gc_len,seval,-List.reduceReplicate,reduceCtorEq,allP])
  by_cases h1:24≤o<;>by_cases h2:o≤26<;>simp (disch:=omega) only [eqZ,↓gc_len,seval,-List.reduceReplicate,reduceCtorEq,allP,h1,h2]<;>rfl
theorem l_r06_Name (s:ByteArray) (hl:s.size≤16):if s.data.toList.all nameC=true then True ∧
      loopAt P L0_r06_Name (e_NameR s 0) σ 56 rd=back P [0,3] B0_r06_Name σ.length (exec P B0_r06_Name ⟨tm (e_NameR s s.size),σ,56,rd⟩)
    else ∃ r,loopAt P L0_r06_Name (e_NameR s 0) σ 56 rd=some r∧ret1 2 (.bool false) σ r:=by
  have h:=loop_to (P:=P) (nt:=56) (lv:=[0,3]) (b:=B0_r06_Name) (rd:=rd) (as:=s.data.toList) (fun i (_:Unit)=>e_NameR s i) (fun _=>σ) (fun i _ a=>if nameC a=true then .inl () else .inr ())
    (fun _=>ret1 2 (.bool false) σ) (fun _ _=>True)
    (fun i a _ ha hi hs=>by
      refine ⟨fun _ _=>trivial,?_⟩
      rw [size_list] at hi
      have hlt:((i:Int)<s.size)=True:=by simpa using hi
      have hix:=v_idx (k:=.i64) ha
      by_cases h1:(97:Int)≤a.toNat<;>by_cases h2:(a.toNat:Int)≤122<;>by_cases h3:(48:Int)≤a.toNat<;>by_cases h4:(a.toNat:Int)≤57<;>by_cases h5:(a.toNat:Int)=95
      all_goals first
        | (exfalso;omega)
        | (have hn:nameC a=true:=by unfold nameC;rw [decide_eq_true_eq];omega
           have g1:((a.toNat:Int)<97)=(¬ (97:Int)≤a.toNat):=by simp
           have g2:((122:Int)<a.toNat)=(¬ (a.toNat:Int)≤122):=by simp
           have g3:((a.toNat:Int)<48)=(¬ (48:Int)≤a.toNat):=by simp
           have g4:((57:Int)<a.toNat)=(¬ (a.toNat:Int)≤57):=by simp
           simp only [B0_r06_Name]
           simp (disch:=omega) only [eqZ,↓gc_len,seval,-List.reduceReplicate,reduceCtorEq,allP,hlt,hix,g1,g2,g3,g4,h1,h2,h3,h4,eq_true h5,hn,ret1]
           done)
        | (have hn:nameC a=false:=by unfold nameC;rw [decide_eq_false_iff_not];omega
           have g1:((a.toNat:Int)<97)=(¬ (97:Int)≤a.toNat):=by simp
           have g2:((122:Int)<a.toNat)=(¬ (a.toNat:Int)≤122):=by simp
           have g3:((a.toNat:Int)<48)=(¬ (48:Int)≤a.toNat):=by simp
           have g4:((57:Int)<a.toNat)=(¬ (a.toNat:Int)≤57):=by simp
           simp only [B0_r06_Name]
           simp (disch:=omega) only [eqZ,↓gc_len,seval,-List.reduceReplicate,reduceCtorEq,allP,hlt,hix,g1,g2,g3,g4,h1,h2,h3,h4,h5,hn,ret1]
           done)) (fun i s=>rfl) () trivial
  rw [size_list,fold_allG] at h
  exact (done_if h :)
theorem s_r06_Name (s:ByteArray):R P f_r06_Name [.str s]=some (.bool (nameOk s)):=by
  unfold nameOk
  by_cases h1:(s.size:Int)<1
  · (rw [r_r06_Name (lbY rfl),F_r06_Name];simp (disch:=omega) only [eqZ,↓gc_len,seval,-List.reduceReplicate,reduceCtorEq,allP,h1])
    simp [show ¬ 1≤s.size by omega]
  by_cases h2:(16:Int)<s.size
  · (rw [r_r06_Name (lbY rfl),F_r06_Name];simp (disch:=omega) only [eqZ,↓gc_len,seval,-List.reduceReplicate,reduceCtorEq,allP,h1,h2])
    simp [show ¬ s.size≤16 by omega]
  have hlen:=size_list s
  obtain ⟨b,hb⟩:∃ b,s.data.toList[0]? = some b:=⟨_,List.getElem?_eq_getElem (by omega)⟩
  have hix:=v_idx0 (k:=.i64) hb
  by_cases h3:(b.toNat:Int)<97
  · (rw [r_r06_Name (lbY rfl),F_r06_Name];simp (disch:=omega) only [eqZ,↓gc_len,seval,-List.reduceReplicate,reduceCtorEq,allP,h1,h2,hix,h3])
    simp [List.getD,hb,show ¬ 97≤b.toNat by omega]
  by_cases h4:(122:Int)<b.toNat
  · (rw [r_r06_Name (lbY rfl),F_r06_Name];simp (disch:=omega) only [eqZ,↓gc_len,seval,-List.reduceReplicate,reduceCtorEq,allP,h1,h2,hix,h3,h4])
    simp [List.getD,hb,show ¬ b.toNat≤122 by omega]
  have hL:=l_r06_Name (σ:=[]) (rd:=none) s (by omega)
  by_cases ha:s.data.toList.all nameC=true
  · rw [if_pos ha] at hL
    (rw [r_r06_Name (lbY rfl),F_r06_Name];simp (disch:=omega) only [eqZ,↓gc_len,seval,-List.reduceReplicate,reduceCtorEq,allP,h1,h2,hix,h3,h4,k0_r06_Name,hL.2,B0_r06_Name,Int.lt_irrefl])
    rw [ha]
    simp [List.getD,hb,show 97≤b.toNat by omega,show b.toNat≤122 by omega,show 1≤s.size by omega,show s.size≤16 by omega]
  · rw [if_neg ha] at hL
    obtain ⟨⟨e,τ',σ',nt',rd'⟩,h1',h2',h3',h4'⟩:=hL
    simp only at h2' h3' h4'
    subst h2';subst h4'
    (rw [r_r06_Name (lbY rfl),F_r06_Name];simp (disch:=omega) only [eqZ,↓gc_len,seval,-List.reduceReplicate,reduceCtorEq,allP,h1,h2,hix,h3,h4,k0_r06_Name,h1',h3'])
    simp only [Bool.not_eq_true] at ha
    simp [ha]
theorem s_r06_Pre (t:Term):t.count≤1000000→R P f_r06_Pre [.agg t.row]=some (.lst (t.pre.map Term.row)):=by
  induction t using Term.ind with
  | h t ih=>
  intro hc
  have hlen:=Term.counts_len t.args
  have hct:=Term.count_eq t
  obtain ⟨hk,h⟩:=loop_run (P:=P) (nt:=23) (lv:=[1,3,4]) (b:=B0_r06_Pre) (rd:=none) (as:=t.args) (fun i (s:List Term)=>e_Pre t s i) sT (fun i s a=>s++a.pre) (fun i s=>s=t :: (t.args.take i).flatMap Term.pre)
    (fun i a s ha hi hs=>by
      have hm:=List.mem_of_getElem? ha
      have hac:=Term.counts_mem hm
      have h2:=flatMap_take_le Term.pre_len t.args (i+1)
      rw [take_flatMap ha] at h2
      have hsl:(s++a.pre).length≤1000001:=by rw [hs,List.cons_append,List.length_cons];omega
      rw [List.length_append] at hsl
      have hr:=ih a hm (by omega)
      have hlt:((i:Int)<t.args.length)=True:=by simpa using hi
      have hap:=v_append (σ:=sT s) (b:=0) (n:=s.length) (e:=5) (es:=5) (bytes:=64) (rows:=s.map Term.row) (new:=a.pre.map Term.row) rfl (by simp) (.inl rfl) (by simp only [List.length_map];omega)
      refine ⟨by rw [hs,take_flatMap ha];rfl,?_⟩
      simp only [B0_r06_Pre]
      simp (disch:=omega) only [eqZ,↓gc_len,seval,-List.reduceReplicate,reduceCtorEq,allP,hlt,List.length_map,v_iadr (map_get (f:=Term.row) ha) a.row_len,q_r06_Pre,hr,src_p (wide_rows _),hap,List.length_append,List.map_append,e_Pre,sT]) (fun i s=>rfl) [t] (by simp) _ (fold_app Term.pre t.args 0 [t])
  have h':loopAt P L0_r06_Pre [(1,.p (.ptr t.row 0)),(3,.sl 0 1),(4,.p (.int .i64 0))] [.pv 5 [t.row] false] 23 none=_:=h
  have e:[t]++t.args.flatMap Term.pre=t.pre:=by rw [Term.pre_eq,Term.pres_eq];rfl
  rw [e] at h'
  (rw [r_r06_Pre (lbY rfl),F_r06_Pre];simp (disch:=omega) only [eqZ,↓gc_len,seval,-List.reduceReplicate,reduceCtorEq,allP,k0_r06_Pre,h',B0_r06_Pre,Int.lt_irrefl,List.length_map,e_Pre])
end Go.AE.S
namespace Go.AE
namespace Term
end Term
namespace S
open Go Go.AE
set_option linter.unusedSimpArgs false
set_option linter.unusedVariables false
variable {τ:Tm} {σ:Store} {rd:Option Nat}
end S
end Go.AE
namespace Go.AE.S
open Go Go.AE
set_option linter.unusedSimpArgs false
set_option linter.unusedVariables false
variable {τ:Tm} {σ:Store} {rd:Option Nat}
def cntV (t:Term) (d n:Int):Int:=if (t.deep:Int)≤d∧(t.count:Int)≤n then n-t.count else -1
def cnts (l:List Term) (d n:Int):Int:=if (Term.deeps l:Int)≤d∧(Term.counts l:Int)≤n then n-Term.counts l else -1
def cntF (d:Int) (_:Nat) (s:Int) (a:Term):Int ⊕ Unit:=if 0≤s then .inl (cntV a d s) else .inr ()
theorem fold_cnt (d:Int) (hd:0≤d):∀ (l:List Term) (i:Nat) (s:Int),0≤s→match foldE (cntF d) i s l with | .inl s'=>s'=cnts l d s | .inr _=>cnts l d s = -1
  | [],i,s,hs=>by
    have e1:Term.deeps []=0:=rfl
    have e2:Term.counts []=0:=rfl
    simp only [foldE]
    unfold cnts
    rw [if_pos (by omega)];omega
  | a :: l,i,s,hs=>by
    simp only [foldE,cntF,hs,if_true]
    by_cases h:(a.deep:Int)≤d∧(a.count:Int)≤s
    · have e:cntV a d s=s-a.count:=by unfold cntV;rw [if_pos h]
      rw [e]
      have ih:=fold_cnt d hd l (i+1) (s-a.count) (by omega)
      have e2:cnts (a :: l) d s=cnts l d (s-a.count):=by
        have e1:Term.deeps (a :: l)=max a.deep (Term.deeps l):=rfl
        have e2:Term.counts (a :: l)=a.count+Term.counts l:=rfl
        unfold cnts
        by_cases h2:(Term.deeps l:Int)≤d∧(Term.counts l:Int)≤s-a.count
        · rw [if_pos h2,if_pos (by omega)];omega
        · rw [if_neg h2,if_neg (by omega)]
      rw [e2]
      exact ih
    · have e:cntV a d s = -1:=by unfold cntV;rw [if_neg h]
      have e2:cnts (a :: l) d s = -1:=by
        have e1:Term.deeps (a :: l)=max a.deep (Term.deeps l):=rfl
        have e2:Term.counts (a :: l)=a.count+Term.counts l:=rfl
        unfold cnts
        rw [if_neg (by omega)]
      rw [e,e2]
      cases l with
      | nil=>rfl
      | cons b l=>simp only [foldE,cntF,if_neg (show ¬ (0:Int) ≤ -1 by omega)]
theorem cntV_eq (t:Term) (d n:Int) (hd:1≤d) (hn:1≤n):cntV t d n=cnts t.args (d-1) (n-1):=by
  unfold cntV cnts
  rw [Term.deep_eq,Term.count_eq]
  by_cases h:((Term.deeps t.args:Nat):Int)≤d-1∧((Term.counts t.args:Nat):Int)≤n-1
  · rw [if_pos h,if_pos (by omega)];omega
  · rw [if_neg h,if_neg (by omega)]
theorem cntV_low (t:Term) (d n:Int) (h:d<1∨n<1):cntV t d n = -1:=by
  unfold cntV
  rw [Term.deep_eq,Term.count_eq,if_neg (by omega)]
theorem cntV_in (t:Term) (d n:Int):(0≤cntV t d n∧cntV t d n≤n)∨cntV t d n = -1:=by
  unfold cntV
  split
  · left;omega
  · right;rfl
abbrev e_ct (t:Term) (d s i:Int):List (Nat×AV):=[(1,.p (.int .i64 d)),(2,.p (.int .i64 s)),(3,.p (.ptr t.row 0)),(7,.p (.int .i64 i))]
def outCt (r:Ex×St):Prop:=r.1=.exit 0∧r.2.τ.get 2=.p (.int .i64 (-1))∧r.2.σ=[]∧r.2.nt=37
theorem s_r06_count (t:Term):TOk t→∀ d n:Int,d≤1000000→n≤1000000→R P f_r06_count [.agg t.row,.int .i64 d,.int .i64 n]=some (.int .i64 (cntV t d n)):=by
  induction t using Term.ind with
  | h t ih=>
  intro ht d n hd hn
  by_cases h1:d<1
  · rw [cntV_low t d n (.inl h1)]
    (rw [r_r06_count (lbY rfl),F_r06_count];simp (disch:=omega) only [eqZ,↓gc_len,seval,-List.reduceReplicate,reduceCtorEq,allP,h1])
  by_cases h2:n<1
  · rw [cntV_low t d n (.inr h2)]
    (rw [r_r06_count (lbY rfl),F_r06_count];simp (disch:=omega) only [eqZ,↓gc_len,seval,-List.reduceReplicate,reduceCtorEq,allP,h1,h2])
  rw [cntV_eq t d n (by omega) (by omega)]
  have hlen:=ht.len
  have h:=loop_to (P:=P) (nt:=37) (lv:=[1,2,3,7]) (b:=B0_r06_count) (rd:=none) (as:=t.args) (fun i (s:Int)=>e_ct t d s i) (fun _=>[]) (cntF (d-1)) (fun _=>outCt) (fun i s=>(0≤s∧s≤1000000)∨s = -1)
    (fun i a s ha hi hs=>by
      have hm:=List.mem_of_getElem? ha
      have hlt:((i:Int)<t.args.length)=True:=by simpa using hi
      have hw:IntKind.i64.wrap (d-1)=d-1:=IntWalk.i64_in _ (by omega)
      unfold cntF
      by_cases h0:0≤s
      · have hr:=ih a hm (ht.args hm) (d-1) s (by omega) (by omega)
        have hin:=cntV_in a (d-1) s
        simp only [h0,if_true]
        refine ⟨fun s' he=>(by simp only [Sum.inl.injEq] at he;subst he;omega),?_⟩
        simp only [B0_r06_count]
        simp (disch:=omega) only [eqZ,↓gc_len,seval,-List.reduceReplicate,reduceCtorEq,allP,hlt,h0,hw,List.length_map,v_iadr (map_get (f:=Term.row) ha) a.row_len,q_r06_count,hr,e_ct]
      · have hs1:s = -1:=by omega
        subst hs1
        refine ⟨fun s' he=>(by simp at he),?_⟩
        simp only [B0_r06_count]
        simp (disch:=omega) only [eqZ,↓gc_len,seval,-List.reduceReplicate,reduceCtorEq,allP,hlt,h0,List.length_map,e_ct,outCt]) (fun i s=>rfl) (n-1) (by omega)
  have hw1:IntKind.i64.wrap (n-1)=n-1:=IntWalk.i64_in _ (by omega)
  have hf:=fold_cnt (d-1) (by omega) t.args 0 (n-1) (by omega)
  cases hfe:foldE (cntF (d-1)) 0 (n-1) t.args with
  | inr _=>
    rw [hfe] at h hf
    obtain ⟨⟨e,τ',σ',nt',rd'⟩,g1,g2,g3,g4,g5⟩:=h
    simp only at g2 g3 g4 g5 hf
    subst g2;subst g4;subst g5
    have h':loopAt P L0_r06_count (e_ct t d (n-1) 0) [] 37 none=_:=g1
    simp only [e_ct] at h'
    rw [hf]
    (rw [r_r06_count (lbY rfl),F_r06_count];simp (disch:=omega) only [eqZ,↓gc_len,seval,-List.reduceReplicate,reduceCtorEq,allP,h1,h2,hw1,k0_r06_count,h',g3])
  | inl s'=>
    rw [hfe] at h hf
    simp only at hf
    obtain ⟨hk,g1⟩:=h
    have h':loopAt P L0_r06_count (e_ct t d (n-1) 0) [] 37 none=_:=g1
    simp only [e_ct] at h'
    rw [← hf]
    (rw [r_r06_count (lbY rfl),F_r06_count];simp (disch:=omega) only [eqZ,↓gc_len,seval,-List.reduceReplicate,reduceCtorEq,allP,h1,h2,hw1,k0_r06_count,h',B0_r06_count,Int.lt_irrefl,List.length_map])
def lightV (t:Term) (d n:Int):List PV:=if (t.deep:Int)≤d∧(t.count:Int)≤n then [.agg t.row,.bool true] else [.agg zT.row,.bool false]
theorem s_r06_Light (t:Term) (ht:TOk t) (d n:Int) (hd:d≤1000000) (hn:n≤1000000):R P f_r06_Light [.agg t.row,.int .i64 d,.int .i64 n]=some (.tup (lightV t d n)):=by
  have h:=s_r06_count t ht d n hd hn
  unfold lightV
  by_cases hc:(t.deep:Int)≤d∧(t.count:Int)≤n
  · have h0:(cntV t d n<0)=False:=by unfold cntV;rw [if_pos hc];simp;omega
    rw [if_pos hc]
    (rw [r_r06_Light (lbY rfl),F_r06_Light];simp (disch:=omega) only [eqZ,↓gc_len,seval,-List.reduceReplicate,reduceCtorEq,allP,q_r06_count,h,h0,z5])
  · have h0:(cntV t d n<0)=True:=by unfold cntV;rw [if_neg hc];simp
    rw [if_neg hc]
    (rw [r_r06_Light (lbY rfl),F_r06_Light];simp (disch:=omega) only [eqZ,↓gc_len,seval,-List.reduceReplicate,reduceCtorEq,allP,q_r06_count,h,h0,z5])
    simp [zT_row]
theorem allP_map:∀ ps:List PV,allP (ps.map AV.p)=some ps
  | []=>rfl
  | a :: r=>by simp only [List.map_cons,allP,allP_map r,Option.map_some]
end Go.AE.S
