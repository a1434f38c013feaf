import Derived.Test.YtiinicliedpmjaaGreatC2
import Derived.Test.YtiinicliedpmjaaGreatD2
import Derived.Test.YtiinicliedpmjaaGreatC0
namespace Go.AE.S
open Go Go.AE
set_option linter.unusedSimpArgs false
set_option linter.unusedVariables false
def posN (n:ByteArray):List V2→Nat
  | []=>0
  | a :: r=>if slt a.name n=true then posN n r+1 else 0
def hitN (n:ByteArray) (s:List V2):Bool:=match s[posN n s]? with | some a=>decide (a.name=n) | none=>false
def insU (s:List V2) (u:Term):List V2:=if u.op=1 then if hitN u.name s=true then s else s.take (posN u.name s)++[⟨u.name,u.w⟩]++s.drop (posN u.name s) else s
theorem posN_le (n:ByteArray):∀ s:List V2,posN n s≤s.length
  | []=>Nat.le_refl _
  | a :: r=>by unfold posN;have:=posN_le n r;split<;>simp;omega
theorem insU_eq (s:List V2) (u:Term):insU s u=if u.op=1 then insV s ⟨u.name,u.w⟩ else s:=by
  unfold insU
  by_cases h1:u.op=1
  · rw [if_pos h1,if_pos h1]
    induction s with
    | nil=>rfl
    | cons a r ih=>
      unfold insV
      by_cases h2:a.name=u.name
      · have h3:¬ slt a.name u.name=true:=by rw [h2,slt_irrefl];simp
        have h4:posN u.name (a :: r)=0:=by unfold posN;rw [if_neg h3]
        rw [if_pos h2,if_pos (by unfold hitN;rw [h4];simp [h2])]
      · rw [if_neg h2]
        by_cases h3:slt u.name a.name=true
        · have h4:posN u.name (a :: r)=0:=by unfold posN;rw [if_neg (by rw [slt_asym h3];simp)]
          rw [if_pos h3,if_neg (by unfold hitN;rw [h4];simp [h2]),h4]
          rfl
        · have h5:slt a.name u.name=true:=by
            rcases slt_tri a.name u.name with h | h | h
            · exact h
            · exact absurd h h2
            · exact absurd h h3
          have h4:posN u.name (a :: r)=posN u.name r+1:=by conv=>lhs;unfold posN;rw [if_pos h5]
          have h6:hitN u.name (a :: r)=hitN u.name r:=by unfold hitN;rw [h4];rfl
          rw [if_neg h3,← ih,h6,h4]
          by_cases h7:hitN u.name r=true
          · rw [if_pos h7,if_pos h7]
          · rw [if_neg h7,if_neg h7];rfl
  · rw [if_neg h1,if_neg h1]
theorem insV_iff:∀ {s:List V2} {v x:V2},Sorted s→(x∈insV s v↔x∈s∨(x=v∧∀ a∈s,a.name≠v.name))
  | [],v,x,_=>by simp [insV]
  | a :: r,v,x,hs=>by
    have hs':=List.pairwise_cons.1 hs
    unfold insV
    split
    · rename_i h2
      constructor
      · exact .inl
      · rintro (h | ⟨_,h⟩)
        · exact h
        · exact absurd h2 (h a (by simp))
    · rename_i h2
      split
      · rename_i h3
        have hno:∀ b∈a :: r,b.name≠v.name:=by
          intro b hb e
          rcases List.mem_cons.1 hb with rfl | hb
          · exact h2 e
          · have:=hs'.1 b hb
            rw [e,slt_asym h3] at this
            cases this
        rw [List.mem_cons]
        constructor
        · rintro (h | h)
          · exact .inr ⟨h,hno⟩
          · exact .inl h
        · rintro (h | ⟨h,_⟩)
          · exact .inr h
          · exact .inl h
      · rw [List.mem_cons,List.mem_cons,insV_iff hs'.2]
        constructor
        · rintro (h | h | ⟨h,h'⟩)
          · exact .inl (.inl h)
          · exact .inl (.inr h)
          · refine .inr ⟨h,fun b hb=>?_⟩
            rcases List.mem_cons.1 hb with rfl | hb
            · exact h2
            · exact h' b hb
        · rintro ((h | h) | ⟨h,h'⟩)
          · exact .inl h
          · exact .inr (.inl h)
          · exact .inr (.inr ⟨h,fun b hb=>h' b (by simp [hb])⟩)
theorem addU_iff {s:List V2} {u:Term} {x:V2}:x∈addU s u↔x∈s∨(u.op=1∧x=⟨u.name,u.w⟩∧∀ a∈s,a.name≠u.name):=by
  unfold addU
  have hany:s.any (isV u)=false↔∀ a∈s,a.name≠u.name:=by
    rw [List.any_eq_false]
    constructor
    · intro h a ha e;exact h a ha (decide_eq_true e)
    · intro h a ha e;exact h a ha (of_decide_eq_true e)
  split
  · rename_i h
    simp only [List.mem_append,List.mem_singleton]
    constructor
    · rintro (h' | h')
      · exact .inl h'
      · exact .inr ⟨h.1,h',hany.1 h.2⟩
    · rintro (h' | ⟨_,h',_⟩)
      · exact .inl h'
      · exact .inr h'
  · rename_i h
    constructor
    · exact .inl
    · rintro (h' | ⟨h1,_,h2⟩)
      · exact h'
      · exact absurd ⟨h1,hany.2 h2⟩ h
theorem insU_sorted {s:List V2} {u:Term} (h:Sorted s):Sorted (insU s u):=by
  rw [insU_eq]
  split
  · exact insV_sorted h
  · exact h
theorem insUs_sorted:∀ {l:List Term} {s:List V2},Sorted s→Sorted (l.foldl insU s)
  | [],_,h=>h
  | u :: l,s,h=>insUs_sorted (l:=l) (insU_sorted h)
theorem both_mem:∀ {l:List Term} {s m:List V2},Sorted m→(∀ x,x∈s↔x∈m)→∀ x,x∈l.foldl addU s↔x∈l.foldl insU m
  | [],s,m,_,h=>h
  | u :: l,s,m,hm,h=>by
    refine both_mem (l:=l) (insU_sorted hm) fun x=>?_
    rw [addU_iff,insU_eq]
    by_cases h1:u.op=1
    · rw [if_pos h1,insV_iff hm,h x]
      constructor
      · rintro (h' | ⟨_,h',h2⟩)
        · exact .inl h'
        · exact .inr ⟨h',fun a ha=>h2 a ((h a).2 ha)⟩
      · rintro (h' | ⟨h',h2⟩)
        · exact .inl h'
        · exact .inr ⟨h1,h',fun a ha=>h2 a ((h a).1 ha)⟩
    · rw [if_neg h1,h x]
      constructor
      · rintro (h' | ⟨h',_⟩)
        · exact h'
        · exact absurd h' h1
      · exact .inl
theorem varsT_eq (t:Term):varsT t=t.pre.foldl insU []:=by
  refine sort_uniq (isort_sort (addUs_dist (by simp [DistN]))) (insUs_sorted (by simp [Sorted])) fun x=>?_
  rw [varsT,isort_mem]
  exact both_mem (by simp [Sorted]) (fun x=>Iff.rfl) x
variable {τ:Tm} {σ:Store} {rd:Option Nat}
def OutOk (x:AV) (σ:Store) (l:List V2):Prop:=(l=[]∧x=.nils)∨∃ b fr,x=.sl b l.length∧σ[b]? = some (.pv 2 (l.map vrow) fr)
theorem out_len {x:AV} {l:List V2} (h:OutOk x σ l):lenSV σ x=some (.p (.int .i64 l.length)):=by
  rcases h with ⟨rfl,rfl⟩ | ⟨b,fr,rfl,h⟩
  · rfl
  · simp [lenSV,lenS,slen,h,Obj.len]
theorem out_at {x:AV} {l:List V2} (h:OutOk x σ l) {i:Nat} {v:V2} (hi:l[i]? = some v):∃ A,iadrSV σ 2 x (.p (.int .i64 i))=some A∧∃ A',fadrV 0 A=some A'∧loadV σ 1 false A'=some (.p (.str v.name)):=by
  have hl:=(List.getElem?_eq_some_iff.1 hi).1
  rcases h with ⟨rfl,rfl⟩ | ⟨b,fr,rfl,h⟩
  · simp at hl
  · refine ⟨.ptr b l.length i 0,?_,.ptr b l.length i 0,rfl,?_⟩
    · unfold iadrSV
      simp [natOf,svec,h,Obj.dims,hl]
    · simp only [loadV,h,List.length_map,if_true,List.getElem?_map,hi]
      rfl
theorem out_pur {x:AV} {l:List V2} (h:OutOk x σ l) (k:Nat):purify σ (k+1) x=some (.lst (l.map vrow)):=by
  rcases h with ⟨rfl,rfl⟩ | ⟨b,fr,rfl,h⟩
  · rfl
  · simp [purify,h]
theorem out_frz {x:AV} {l:List V2} (h:OutOk x σ l):∃ σ',frzV σ x=some (.p (.lst (l.map vrow)),σ')∧σ'.length=σ.length∧OutOk x σ' l∧∀ c,(∀ b n,x=.sl b n→c≠b)→σ'[c]? = σ[c]? := by
  rcases h with ⟨rfl,rfl⟩ | ⟨b,fr,rfl,h⟩
  · exact ⟨σ,frz_nils,rfl,.inl ⟨rfl,rfl⟩,fun _ _=>rfl⟩
  · have hb:=(List.getElem?_eq_some_iff.1 h).1
    cases l with
    | nil=>exact ⟨σ,frz_sl h (by simp),rfl,.inr ⟨b,fr,rfl,h⟩,fun _ _=>rfl⟩
    | cons a l=>
      refine ⟨σ.set b (.pv 2 ((a :: l).map vrow) true),frz_sl h (by simp),by simp,.inr ⟨b,true,rfl,by rw [List.getElem?_set_self hb]⟩,fun c hc=>?_⟩
      rw [List.getElem?_set_ne (fun e=>hc b _ rfl e.symm)]
theorem out_app {x:AV} {l:List V2} {o:Obj} (h:OutOk x σ l):OutOk x (σ++[o]) l:=by
  rcases h with ⟨rfl,rfl⟩ | ⟨b,fr,rfl,h⟩
  · exact .inl ⟨rfl,rfl⟩
  · exact .inr ⟨b,fr,rfl,by rw [List.getElem?_append_left (List.getElem?_eq_some_iff.1 h).1];exact h⟩
theorem out_lt {x:AV} {l:List V2} (h:OutOk x σ l) {b n:Nat} (hx:x=.sl b n):b<σ.length:=by
  rcases h with ⟨rfl,rfl⟩ | ⟨b',fr,rfl,h⟩
  · cases hx
  · cases hx;exact (List.getElem?_eq_some_iff.1 h).1
theorem wide_v (l:List V2):wide 2 (l.map vrow)=true:=by simp [wide,vrow]
theorem slc_take (l:List V2) (k:Nat) (hk:k≤l.length):slcSV 2 (.p (.lst (l.map vrow))) none (some (.p (.int .i64 k))) none=some (.p (.lst ((l.take k).map vrow))):=by
  unfold slcSV
  simp only [wide_v,if_true]
  simp [bounds,boundAt,natOf,hk,List.map_take]
theorem slc_drop (l:List V2) (k:Nat) (hk:k≤l.length):slcSV 2 (.p (.lst (l.map vrow))) (some (.p (.int .i64 k))) none none=some (.p (.lst ((l.drop k).map vrow))):=by
  unfold slcSV
  simp only [wide_v,if_true]
  simp [bounds,boundAt,natOf,hk,List.map_drop]
  rw [List.take_of_length_le (by simp)]
theorem src_last {es m:Nat} {rows:List (List PV)} {fr:Bool} (hm:rows.length=m):srcOf (σ++[.pv es rows fr]) es (.sl σ.length m)=some (.inl rows):=src_sl (fr:=fr) (e:=es) (by simp) hm (.inl rfl)
abbrev e_sr (x:AV) (T:List Term) (i k:Int):List (Nat×AV):=[(3,x),(4,.p (.lst (T.map Term.row))),(5,.p (.int .i64 i)),(6,.p (.int .i64 k))]
def outSr (x:AV) (T:List Term) (i:Int) (σ:Store) (k:Nat) (r:Ex×St):Prop:=∃ τ',r=(.exit 2,⟨τ',σ,83,none⟩)∧τ'.get 3=x∧τ'.get 4=.p (.lst (T.map Term.row))∧τ'.get 5=.p (.int .i64 i)∧τ'.get 6=.p (.int .i64 k)
theorem fold_sr (n:ByteArray):∀ (l:List V2) (k:Nat),foldE (S:=Unit) (T:=Nat) (fun k _ (v:V2)=>if slt v.name n=true then .inl () else .inr k) k () l=if posN n l<l.length then .inr (k+posN n l) else .inl ()
  | [],k=>rfl
  | a :: l,k=>by
    unfold foldE posN
    by_cases h:slt a.name n=true
    · simp only [h,if_true]
      rw [fold_sr n l (k+1)]
      simp only [List.length_cons,Nat.add_lt_add_iff_right]
      split
      · congr 1;omega
      · rfl
    · simp only [h]
      simp
theorem posN_end {n:ByteArray}:∀ {l:List V2},¬ posN n l<l.length→posN n l=l.length
  | l,h=>by have:=posN_le n l;omega
set_option maxHeartbeats 4000000 in
theorem l1_Vars (x:AV) (σ:Store) (l:List V2) (h:OutOk x σ l) (T:List Term) (i:Nat) (u:Term) (hu:T[i]? = some u) (hll:l.length≤1000000) :
    ∃ τ',loopAt P L1_r06_Vars (e_sr x T i 0) σ 83 none=some (.exit 2,⟨τ',σ,83,none⟩)∧τ'.get 3=x∧τ'.get 4=.p (.lst (T.map Term.row))∧τ'.get 5=.p (.int .i64 i)∧τ'.get 6=.p (.int .i64 (posN u.name l)):=by
  have hlen:=out_len h
  have hui:=fun σ=>v_iadr (k:=.i64) (es:=5) (σ:=σ) (map_get (f:=Term.row) hu) u.row_len
  have hl:=loop_to (P:=P) (nt:=83) (lv:=[3,4,5,6]) (b:=B1_r06_Vars) (rd:=none) (as:=l) (fun k (_:Unit)=>e_sr x T i k) (fun _=>σ) (fun k _ v=>if slt v.name u.name=true then .inl () else .inr k) (fun (k:Nat)=>outSr x T i σ k) (fun _ _=>True)
    (fun k v s hv hk hs=>by
      refine ⟨fun _ _=>trivial,?_⟩
      have hlt:((k:Int)<l.length)=True:=by simpa using hk
      obtain ⟨A,hA,A',hA',hL⟩:=out_at h hv
      rcases Classical.propComplete (slt v.name u.name=true) with h1 | h1
      · have h2:slt v.name u.name=true:=of_eq_true h1
        simp only [B1_r06_Vars,h2,if_true]
        simp (disch:=omega) only [eqZ,↓gc_len,seval,-List.reduceReplicate,reduceCtorEq,allP,hlen,hlt,hA,hA',hL,hui,h2,e_sr]
      · have h2:slt v.name u.name=false:=by simpa using of_eq_false h1
        simp only [B1_r06_Vars,h2]
        simp (disch:=omega) only [eqZ,↓gc_len,seval,-List.reduceReplicate,reduceCtorEq,allP,hlen,hlt,hA,hA',hL,hui,h2,e_sr,outSr]
        exact ⟨_,rfl,rfl,rfl,rfl,rfl⟩) (fun i s=>rfl) () trivial
  rw [fold_sr] at hl
  by_cases hp:posN u.name l<l.length
  · rw [if_pos hp] at hl
    obtain ⟨r,h1,τ',rfl,h3,h4,h5,h6⟩:=hl
    refine ⟨τ',h1,h3,h4,h5,?_⟩
    rw [h6,Nat.zero_add]
  · rw [if_neg hp] at hl
    obtain ⟨_,h1⟩:=hl
    have he:=posN_end hp
    have h':loopAt P L1_r06_Vars (e_sr x T i 0) σ 83 none=_:=h1
    rw [h']
    simp only [B1_r06_Vars]
    simp (disch:=omega) only [eqZ,↓gc_len,seval,-List.reduceReplicate,reduceCtorEq,allP,hlen,e_sr,Int.lt_irrefl]
    exact ⟨_,rfl,rfl,rfl,rfl,by rw [he];rfl⟩
abbrev e_vs (T:List Term) (x:AV) (i:Int):List (Nat×AV):=[(3,x),(4,.p (.lst (T.map Term.row))),(5,.p (.int .i64 i))]
def IVs (T:List Term) (i:Nat) (e:List (Nat×AV)) (σ:Store):Prop:=∃ x,e=e_vs T x i∧OutOk x σ ((T.take i).foldl insU [])
theorem insU_len {s:List V2} {u:Term}:(insU s u).length≤s.length+1:=by
  rw [insU_eq]
  split
  · exact insV_len _ _
  · omega
theorem insUs_len:∀ {l:List Term} {s:List V2},(l.foldl insU s).length≤s.length+l.length
  | [],s=>by simp
  | u :: l,s=>by
    have h1:=insUs_len (l:=l) (s:=insU s u)
    have h2:=insU_len (s:=s) (u:=u)
    simp only [List.foldl_cons,List.length_cons]
    omega
theorem gc_hi {n m:Nat} {x y:AV} (h:n<σ.length):gc n [.sl n m,x,y] σ=σ:=by
  unfold gc
  rw [if_neg (by omega),if_neg]
  simp [gcOk,below]
theorem app_v {b e n:Nat} {rows new:List (List PV)} (h:σ[b]? = some (.pv e rows false)) (hn:rows.length=n) (he:e=2∨(e=0∧rows=[])) (hb:(n+new.length)*24≤140737488355328):∃ σ',appendV σ 2 24 (.sl b n) (some (.inl new))=some (.sl b (n+new.length),σ')∧σ'.length=σ.length∧σ'[b]? = some (.pv 2 (rows++new) false)∧∀ c,c≠b→σ'[c]? = σ[c]? := by
  have hbl:=(List.getElem?_eq_some_iff.1 h).1
  exact ⟨_,v_append h hn he hb,by simp,by rw [List.getElem?_set_self hbl],fun c hc=>by rw [List.getElem?_set_ne (fun e=>hc e.symm)]⟩
set_option maxHeartbeats 8000000 in
theorem l0_Vars (T:List Term) (hT:T.length≤1000000):∃ e σ,IVs T T.length e σ∧loopAt P L0_r06_Vars (e_vs T .nils 0) [] 83 none=back P [3,4,5] B0_r06_Vars σ.length (exec P B0_r06_Vars ⟨tm e,σ,83,none⟩):=by
  refine loop_rel (P:=P) (nt:=83) (rd:=none) (lv:=[3,4,5]) (b:=B0_r06_Vars) (as:=T) (IVs T) (fun i u e σ hu hi hI=>?_) (fun i e σ hI=>?_) _ _ ⟨.nils,rfl,.inl ⟨rfl,rfl⟩⟩
  · obtain ⟨x,rfl,hx⟩:=hI
    have hnext:(T.take (i+1)).foldl insU []=insU ((T.take i).foldl insU []) u:=by
      rw [List.take_add_one,hu]
      simp [List.foldl_append]
    have hll:=insUs_len (l:=T.take i) (s:=[])
    rw [List.length_take,List.length_nil] at hll
    unfold IVs
    rw [hnext]
    generalize (T.take i).foldl insU []=l at *
    have hl6:l.length≤1000000:=by omega
    have hlt:((i:Int)<T.length)=True:=by simpa using hi
    have hui:=fun σ=>v_iadr (k:=.i64) (es:=5) (σ:=σ) (map_get (f:=Term.row) hu) u.row_len
    rcases Classical.propComplete (u.op=1) with h1 | h1
    rotate_left
    · refine ⟨e_vs T x (i+1:Nat),σ,?_,x,rfl,?_⟩
      · simp only [B0_r06_Vars]
        simp (disch:=omega) only [eqZ,↓gc_len,seval,-List.reduceReplicate,reduceCtorEq,allP,hlt,hui,List.length_map,h1,e_vs]
      · unfold insU
        rw [if_neg (of_eq_false h1)]
        exact hx
    have ho:u.op=1:=of_eq_true h1
    obtain ⟨τ',hL,g3,g4,g5,g6⟩:=l1_Vars x σ l hx T i u hu hl6
    simp only [e_sr] at hL
    have hlen:=out_len hx
    have hple:=posN_le u.name l
    by_cases hit:hitN u.name l=true
    · refine ⟨e_vs T x (i+1:Nat),σ,?_,x,rfl,?_⟩
      · unfold hitN at hit
        cases hg:l[posN u.name l]? with
        | none=>rw [hg] at hit;cases hit
        | some a=>
          rw [hg] at hit
          have hname:a.name=u.name:=of_decide_eq_true hit
          obtain ⟨A,hA,A',hA',hl'⟩:=out_at hx hg
          have hpl:(((posN u.name l:Nat):Int)<l.length)=True:=by
            have:=(List.getElem?_eq_some_iff.1 hg).1
            simpa using this
          simp only [B0_r06_Vars]
          simp (disch:=omega) only [eqZ,↓gc_len,seval,-List.reduceReplicate,reduceCtorEq,allP,hlt,hui,List.length_map,h1,k1_r06_Vars,hL,g3,g4,g5,g6,hlen,hpl,hA,hA',hl',hname,e_vs]
      · unfold insU
        rw [if_pos ho,if_pos hit]
        exact hx
    · have hins:insU l u=l.take (posN u.name l)++[⟨u.name,u.w⟩]++l.drop (posN u.name l):=by
        unfold insU
        rw [if_pos ho,if_neg hit]
      rw [hins]
      generalize hk:posN u.name l=k at *
      have hx1:OutOk x (σ++[.pv 0 [] false]) l:=out_app hx
      obtain ⟨σ2,f2,n2,o2,c2⟩:=out_frz hx1
      have hne:∀ b n,x=.sl b n→σ.length≠b:=fun b n e=>by have:=out_lt hx e;omega
      have q2:σ2[σ.length]? = some (.pv 0 [] false):=by rw [c2 _ hne];simp
      obtain ⟨σ3,f3,n3,q3,c3⟩:=app_v (new:=(l.take k).map vrow) (n:=0) q2 rfl (.inr ⟨rfl,rfl⟩) (by simp;omega)
      have n3':σ3.length=σ.length+1:=by rw [n3,n2];simp
      have o3:OutOk x σ3 l:=by
        rcases o2 with h | ⟨b,fr,rfl,h⟩
        · exact .inl h
        · exact .inr ⟨b,fr,rfl,by rw [c3 b (fun e=>hne b _ rfl e.symm)];exact h⟩
      have q3':(σ3++[.pv 2 [vrow ⟨u.name,u.w⟩] false])[σ.length]? = some (.pv 2 ((l.take k).map vrow) false):=by
        rw [List.getElem?_append_left (by omega),q3]
        simp
      obtain ⟨σ4,f4,n4,q4,c4⟩:=app_v (new:=[vrow ⟨u.name,u.w⟩]) q3' (n:=k) (by simp;omega) (.inl rfl) (by simp;omega)
      have o4:OutOk x σ4 l:=by
        rcases out_app (o:=.pv 2 [vrow ⟨u.name,u.w⟩] false) o3 with h | ⟨b,fr,rfl,h⟩
        · exact .inl h
        · exact .inr ⟨b,fr,rfl,by rw [c4 b (fun e=>hne b _ rfl e.symm)];exact h⟩
      obtain ⟨σ5,f5,n5,o5,c5⟩:=out_frz o4
      have q5:σ5[σ.length]? = some (.pv 2 ((l.take k).map vrow++[vrow ⟨u.name,u.w⟩]) false):=by rw [c5 _ hne];exact q4
      obtain ⟨σ6,f6,n6,q6,c6⟩:=app_v (new:=(l.drop k).map vrow) q5 (n:=k+1) (by simp;omega) (.inl rfl) (by simp;omega)
      have n6':σ.length<σ6.length:=by rw [n6,n5,n4,List.length_append];omega
      have s3:=src_last (σ:=σ3) (es:=2) (m:=1) (rows:=[vrow ⟨u.name,u.w⟩]) (fr:=false) rfl
      have t3:=src_p (σ:=σ2) (wide_v (l.take k))
      have t6:=src_p (σ:=σ5) (wide_v (l.drop k))
      have b1:=slc_take l k hple
      have b2:=slc_drop l k hple
      have e3:0+((l.take k).map vrow).length=k:=by simp;omega
      have e4:k+[vrow (⟨u.name,u.w⟩:V2)].length=k+1:=rfl
      have e6:k+1+((l.drop k).map vrow).length=(l.take k++[(⟨u.name,u.w⟩:V2)]++l.drop k).length:=by simp;omega
      rw [e3] at f3
      rw [e4] at f4
      rw [e6] at f6
      refine ⟨e_vs T (.sl σ.length (l.take k++[(⟨u.name,u.w⟩:V2)]++l.drop k).length) (i+1:Nat),σ6,?_,_,rfl,.inr ⟨_,false,rfl,?_⟩⟩
      · simp only [vrow] at f4 s3
        have gch:=fun (m:Nat) (a b:AV)=>gc_hi (σ:=σ6) (n:=σ.length) (m:=m) (x:=a) (y:=b) n6'
        cases hg:l[k]? with
        | none=>
          have hpl:((k:Int)<l.length)=False:=by
            have:=List.getElem?_eq_none_iff.1 hg
            simp;omega
          simp only [B0_r06_Vars]
          simp (disch:=omega) only [eqZ,↓gc_len,seval,-List.reduceReplicate,reduceCtorEq,allP,hlt,hui,List.length_map,h1,k1_r06_Vars,hL,g3,g4,g5,g6,hlen,hpl,f2,b1,t3,f3,s3,f4,f5,b2,t6,f6,gch,e_vs]
        | some a=>
          have hname:(a.name=u.name)=False:=by
            unfold hitN at hit
            rw [hk,hg] at hit
            simpa using hit
          obtain ⟨A,hA,A',hA',hl'⟩:=out_at hx hg
          have hpl:((k:Int)<l.length)=True:=by
            have:=(List.getElem?_eq_some_iff.1 hg).1
            simpa using this
          simp only [B0_r06_Vars]
          simp (disch:=omega) only [eqZ,↓gc_len,seval,-List.reduceReplicate,reduceCtorEq,allP,hlt,hui,List.length_map,h1,k1_r06_Vars,hL,g3,g4,g5,g6,hlen,hpl,hA,hA',hl',hname,f2,b1,t3,f3,s3,f4,f5,b2,t6,f6,gch,e_vs]
      · rw [q6]
        simp
  · obtain ⟨x,rfl,hx⟩:=hI
    rfl
set_option maxHeartbeats 4000000 in
theorem s_r06_Vars (t:Term) (hc:t.count≤1000000):R P f_r06_Vars [.agg t.row]=some (.lst ((varsT t).map vrow)):=by
  have hr:=s_r06_Pre t hc
  have hpl:=Term.pre_len t
  obtain ⟨e,σ,⟨x,rfl,hx⟩,h⟩:=l0_Vars t.pre (by omega)
  rw [List.take_length,← varsT_eq] at hx
  have hpu:=out_pur hx
  have h':loopAt P L0_r06_Vars [(3,.nils),(4,.p (.lst (t.pre.map Term.row))),(5,.p (.int .i64 0))] [] 83 none=_:=h
  simp only [e_vs] at h'
  (rw [r_r06_Vars (lbY rfl),F_r06_Vars];simp (disch:=omega) only [eqZ,↓gc_len,seval,-List.reduceReplicate,reduceCtorEq,allP,q_r06_Pre,hr,k0_r06_Vars,h',B0_r06_Vars,Int.lt_irrefl,List.length_map,hpu])
def AllOk (t:Term):Prop:=∀ u∈t.post,nodeN u=0
theorem allOk_self {t:Term} (h:AllOk t):NodeOk t:=nodeok8 (h t ((mem_post t t).2 (mem_pre.2 (.inl rfl))))
theorem allOk_arg {t a:Term} (h:AllOk t) (ha:a∈t.args):AllOk a:=fun u hu=>h u ((mem_post t u).2 (mem_pre.2 (.inr ⟨a,ha,(mem_post a u).1 hu⟩)))
theorem val_ok (E:ByteArray→Nat) (t:Term):AllOk t→TOk t→t.valT E<2^cw t.w∧(t.op≠1→ArOk t.op t.args.length∧InW (Term.valsT E t.args)∧∀ x,Term.valsT E t.args=[x]→t.op=3∨t.op=4→cw t.w=cw x.w):=by
  induction t using Term.ind with
  | h t ih=>
  intro h ht
  have hn:=allOk_self h
  have hin:InW (Term.valsT E t.args):=by
    rw [Term.valsT_map]
    intro x hx
    obtain ⟨a,ha,rfl⟩:=List.mem_map.1 hx
    exact (ih a ha (allOk_arg h ha) (ht.args ha)).1
  rw [Term.valT_eq]
  by_cases h1:t.op=1
  · rw [if_pos h1]
    exact ⟨Nat.mod_lt _ (Nat.pow_pos (by omega)),fun h=>absurd h1 h⟩
  · rw [if_neg h1]
    have har:=ar_ok hn.ar h1
    have hlen:(Term.valsT E t.args).length=t.args.length:=by rw [Term.valsT_map];simp
    have hm:(Term.valsT E t.args).map (·.w)=t.args.map Term.w:=by rw [Term.valsT_map,List.map_map];rfl
    have:=comp_lt hn.w h1 ht.v.1 (by rw [hlen];exact har) (by rw [hm];exact hn.wd) hin
    exact ⟨this.1,fun _=>⟨har,hin,this.2⟩⟩
abbrev sV8 (s:List Wd):Store:=[.gone,.pv 2 (s.map wdrow) false]
abbrev e_ev (g:AV) (t:Term) (s:List Wd) (i:Int):List (Nat×AV):=[(1,g),(2,.p (.ptr t.row 0)),(6,.sl 1 s.length),(20,.p (.lst (t.args.map Term.row))),(21,.p (.int .i64 t.args.length)),(22,.p (.int .i64 i))]
theorem bsl_w {w v:Int}:bsliceV σ 2 1 (fillP (List.replicate 1 [.p (.int .i64 0),.p (.int .u64 0)]).flatten [(0,2,.p (.agg [.int .i64 w,.int .u64 v]))])=some (.sl σ.length 1,σ++[.pv 2 [[.int .i64 w,.int .u64 v]] false]):=rfl
theorem bld_w {w v:Int}:buildV [.p (.int .i64 0),.p (.int .u64 0)] [(0,1,.p (.int .i64 w)),(1,1,.p (.int .u64 v))]=some (.p (.agg [.int .i64 w,.int .u64 v])):=rfl
theorem al_6:allocV 6 (eagers [.p (.int .i64 0),.p (.int .u64 0),.p (.int .i64 0),.p (.int .u64 0),.p (.int .i64 0),.p (.int .u64 0)] σ)=some (.ptr σ.length 1 0 0,σ++[.pv 6 [[.int .i64 0,.int .u64 0,.int .i64 0,.int .u64 0,.int .i64 0,.int .u64 0]] false]):=rfl
theorem slc_6:slcAV [.pv 6 [[.int .i64 0,.int .u64 0,.int .i64 0,.int .u64 0,.int .i64 0,.int .u64 0]] false] 3 2 (.ptr 0 1 0 0) none (some (.p (.int .i64 0))) none=some (.sl 1 0,[.gone,.pv 2 [] false]):=rfl
theorem pur_1 (k:Nat) (o:Obj) (rows:List (List PV)) (e:Nat) (fr:Bool):purify [o,.pv e rows fr] (k+1) (.sl 1 rows.length)=some (.lst rows):=by simp [purify]
theorem gone_below (n:Nat):Obj.below n .gone=true:=rfl
theorem src_21 {o o1:Obj} {r:List PV} {fr:Bool}:srcOf [o,o1,.pv 2 [r] fr] 2 (.sl 2 1)=some (.inl [r]):=src_sl rfl rfl (.inl rfl)
set_option maxHeartbeats 8000000 in
theorem s_eval_valueX (f:FuncId) (cap:List PV) (E:ByteArray→Nat) (hE:∀ n,W (E n)) (t:Term) :
    (∀ u∈t.post,∀ σ:Store,u.op=1→callV P (.p (.fn f cap)) [.p (.agg u.row)] σ=some (.p (.int .u64 (E u.name:Int)),σ))→AllOk t→TOk t→t.count≤1000000→R P f_eval_value [.agg t.row,.fn f cap]=some (.int .u64 (t.valT E:Int)):=by
  induction t using Term.ind with
  | h t ih=>
  intro hf h ht hc
  rw [Term.valT_eq]
  by_cases h1:t.op=1
  · rw [if_pos h1]
    have e1:(t.op=1)=True:=by simp [h1]
    have hv:=fun σ=>hf t ((mem_post t t).2 (mem_pre.2 (.inl rfl))) σ h1
    have hcut:=n_Cut t.w (E t.name) (hE _)
    (rw [r_eval_value (lbY rfl),F_eval_value];simp (disch:=omega) only [eqZ,↓gc_len,seval,-List.reduceReplicate,reduceCtorEq,allP,e1,hv,q_bits_Cut,hcut,regD_go,regD_some,regOk,apartOk,pureRead,blkOf,noNils,Bool.true_or,Bool.or_true])
  · rw [if_neg h1]
    have e1:(t.op=1)=False:=by simp [h1]
    have hct:=Term.count_eq t
    have hlen:=Term.counts_len t.args
    obtain ⟨har,hin,_⟩:=(val_ok E t h ht).2 h1
    obtain ⟨hk,hl⟩:=loop_run (P:=P) (nt:=44) (lv:=[1,2,6,20,21,22]) (b:=B0_eval_value) (rd:=none) (as:=t.args) (fun i (s:List Wd)=>e_ev (.p (.fn f cap)) t s i) sV8 (fun _ s a=>s++[⟨a.w,a.valT E⟩]) (fun i s=>s.length=i)
      (fun i a s ha hi hs=>by
        have hm:=List.mem_of_getElem? ha
        have hac:=Term.counts_mem hm
        have hr:=ih a hm (fun u hu=>hf u ((mem_post t u).2 (mem_pre.2 (.inr ⟨a,hm,(mem_post a u).1 hu⟩)))) (allOk_arg h hm) (ht.args hm) (by omega)
        have hlt:((i:Int)<t.args.length)=True:=by simpa using hi
        have hx:=fun σ=>v_iadr (k:=.i64) (es:=5) (σ:=σ) (map_get (f:=Term.row) ha) a.row_len
        have hap:=v_append (σ:=[.gone,.pv 2 (s.map wdrow) false,.pv 2 [[.int .i64 a.w,.int .u64 (a.valT E:Int)]] false]) (b:=1) (n:=s.length) (e:=2) (es:=2) (bytes:=16) (rows:=s.map wdrow) (new:=[[.int .i64 a.w,.int .u64 (a.valT E:Int)]]) rfl (by simp) (.inl rfl) (by simp only [List.length_cons,List.length_nil];omega)
        refine ⟨by simp [hs],?_⟩
        simp only [B0_eval_value]
        simp (disch:=omega) only [eqZ,↓gc_len,seval,-List.reduceReplicate,reduceCtorEq,allP,hlt,hx,q_eval_value,hr,bld_w,bsl_w,src_21,hap,List.length_map,List.length_append,List.map_append,gone_below,wdrow,e_ev,sV8]) (fun i s=>rfl) [] rfl _ (fold_snoc (fun a=>(⟨a.w,a.valT E⟩:Wd)) t.args 0 [])
    have hv:([]:List Wd)++t.args.map (fun a=>(⟨a.w,a.valT E⟩:Wd))=Term.valsT E t.args:=by rw [Term.valsT_map];rfl
    rw [hv] at hl
    have hvl:(Term.valsT E t.args).length=t.args.length:=by rw [Term.valsT_map];simp
    have hvN:((t.v.toNat:Nat):Int)=t.v:=by have:=ht.v.1;omega
    have hcomp:=n_compute t.op t.w t.v.toNat (Term.valsT E t.args) (by rw [hvl];exact har) (by have:=ht.v;unfold U64 at this;show _<_;omega) (fun x hx=>Nat.lt_of_lt_of_le (hin x hx) (pow_c (cw_in x.w).2))
    rw [hvN] at hcomp
    have hl':loopAt P L0_eval_value [(1,.p (.fn f cap)),(2,.p (.ptr t.row 0)),(6,.sl 1 0),(20,.p (.lst (t.args.map Term.row))),(21,.p (.int .i64 t.args.length)),(22,.p (.int .i64 0))] [.gone,.pv 2 [] false] 44 none=_:=hl
    have hP:=fun k o=>pur_1 k o ((Term.valsT E t.args).map wdrow) 2 false
    rw [List.length_map] at hP
    generalize Term.valsT E t.args=vs at *
    (rw [r_eval_value (lbY rfl),F_eval_value];simp (disch:=omega) only [eqZ,↓gc_len,seval,-List.reduceReplicate,reduceCtorEq,allP,e1,al_6,slc_6,List.length_map,k0_eval_value,hl',B0_eval_value,Int.lt_irrefl,hP,q_eval_compute,hcomp,e_ev,sV8])
structure Bd where
  name:ByteArray
  v:Nat
def brow (b:Bd):List PV:=[.str b.name,.int .u64 (b.v:Int)]
def lookB (n:ByteArray):List Bd→Option Nat
  | []=>none
  | b :: r=>if b.name=n then some b.v else lookB n r
theorem b_len (b:Bd):(brow b).length=2:=rfl
theorem b_f0 {b:Bd}:fadrV 0 (.p (.ptr (brow b) 0))=some (.p (.ptr (brow b) 0)):=rfl
theorem b_f1 {b:Bd}:fadrV 1 (.p (.ptr (brow b) 0))=some (.p (.ptr (brow b) 1)):=rfl
theorem b_g0 {b:Bd}:(brow b)[0]? = some (.str b.name):=rfl
theorem b_g1 {b:Bd}:(brow b)[1]? = some (.int .u64 (b.v:Int)):=rfl
abbrev e_lk (l:List Bd) (n:ByteArray) (i:Int):List (Nat×AV):=[(0,.p (.lst (l.map brow))),(1,.p (.str n)),(6,.p (.int .i64 i))]
def outLk (x:Nat) (r:Ex×St):Prop:=r.1=.ret∧r.2.τ.get 4=.p (.int .u64 (x:Int))∧r.2.τ.get 5=.p (.bool true)∧r.2.σ=[]
theorem fold_lk (n:ByteArray):∀ (l:List Bd) (i:Nat),foldE (S:=Unit) (T:=Nat) (fun _ _ (b:Bd)=>if b.name=n then .inr b.v else .inl ()) i () l=match lookB n l with | some v=>.inr v | none=>.inl ()
  | [],i=>rfl
  | b :: l,i=>by
    unfold foldE lookB
    by_cases h:b.name=n
    · simp only [h,if_true]
    · simp only [h,if_false]
      exact fold_lk n l (i+1)
def lookP (l:List Bd) (n:ByteArray):List PV:=match lookB n l with | some v=>[.int .u64 (v:Int),.bool true] | none=>[.int .u64 0,.bool false]
theorem r_Look (l:List Bd) (n:ByteArray) (hn:l.length≤9223372036854775807):R P f_r08_Look [.lst (l.map brow),.str n]=some (.tup (lookP l n)):=by
  have h:=loop_to (P:=P) (nt:=25) (lv:=[0,1,6]) (b:=B0_r08_Look) (rd:=none) (as:=l) (fun i (_:Unit)=>e_lk l n i) (fun _=>[]) (fun _ _ b=>if b.name=n then .inr b.v else .inl ()) outLk (fun _ _=>True)
    (fun i b s hb hi hs=>by
      refine ⟨fun _ _=>trivial,?_⟩
      have hlt:((i:Int)<l.length)=True:=by simpa using hi
      have hx:=fun σ=>v_iadr (k:=.i64) (es:=2) (σ:=σ) (map_get (f:=brow) hb) (b_len b)
      rcases Classical.propComplete (b.name=n) with h1 | h1<;>simp only [B0_r08_Look,h1]<;>simp (disch:=omega) only [eqZ,↓gc_len,seval,-List.reduceReplicate,reduceCtorEq,allP,hlt,hx,b_f0,b_f1,b_g0,b_g1,h1,List.length_map,e_lk,outLk]) (fun i s=>rfl) () trivial
  rw [fold_lk] at h
  unfold lookP
  cases hl:lookB n l with
  | none=>
    rw [hl] at h
    obtain ⟨_,h⟩:=h
    have h':loopAt P L0_r08_Look (e_lk l n 0) [] 25 none=_:=h
    simp only [e_lk] at h'
    (rw [r_r08_Look (lbY rfl),F_r08_Look];simp (disch:=omega) only [eqZ,↓gc_len,seval,-List.reduceReplicate,reduceCtorEq,allP,k0_r08_Look,h',B0_r08_Look,Int.lt_irrefl,List.length_map])
  | some v=>
    rw [hl] at h
    obtain ⟨⟨e,τ',σ',nt',rd'⟩,g1,g2,g3,g4,g5⟩:=h
    simp only at g2 g3 g4 g5
    subst g2;subst g5
    have h':loopAt P L0_r08_Look (e_lk l n 0) [] 25 none=some (.ret,⟨τ',[],nt',rd'⟩):=g1
    simp only [e_lk] at h'
    (rw [r_r08_Look (lbY rfl),F_r08_Look];simp (disch:=omega) only [eqZ,↓gc_len,seval,-List.reduceReplicate,reduceCtorEq,allP,k0_r08_Look,h',g3,g4])
def boundB (l:List Bd) (t:Term):Bool:=t.post.all fun u=>decide (¬ u.op=1) || (lookB u.name l).isSome
theorem bound_args (l:List Bd) (t:Term) (h1:¬ t.op=1):boundB l t=t.args.all (boundB l):=by
  unfold boundB
  rw [Term.post_eq,List.all_append]
  have key:∀ as:List Term,((Term.posts as).all fun u=>decide (¬ u.op=1) || (lookB u.name l).isSome)=as.all fun a=>a.post.all fun u=>decide (¬ u.op=1) || (lookB u.name l).isSome:=by
    intro as
    induction as with
    | nil=>rfl
    | cons a as ih=>simp only [Term.posts,List.all_append,List.all_cons,ih]
  rw [key]
  simp [h1]
theorem bound_var (l:List Bd) {t:Term} (h1:t.op=1) (ha:t.args=[]):boundB l t=(lookB t.name l).isSome:=by
  unfold boundB
  rw [Term.post_eq,ha]
  simp [Term.posts,h1]
def envB (l:List Bd) (n:ByteArray):Nat:=(lookB n l).getD 0
def valP (l:List Bd) (t:Term):List PV:=if boundB l t=true then [.int .u64 (t.valT (envB l):Int),.bool true] else [.int .u64 0,.bool false]
abbrev e_rV (l:List Bd) (t:Term) (s:List Wd) (i:Int):List (Nat×AV):=[(1,.p (.lst (l.map brow))),(2,.p (.ptr t.row 0)),(8,.sl 0 s.length),(9,.p (.int .i64 i))]
abbrev sW8 (s:List Wd):Store:=[.pv (esOf 2 s) (s.map wdrow) false]
def outV8 (r:Ex×St):Prop:=r.1=.ret∧r.2.τ.get 4=.p (.int .u64 0)∧r.2.τ.get 5=.p (.bool false)
theorem fold_bnd (q:Term→Bool) (g:Term→Wd):∀ (l:List Term) (i:Nat) (s:List Wd),foldE (S:=List Wd) (T:=Unit) (fun _ s a=>if q a=true then .inl (s++[g a]) else .inr ()) i s l=if l.all q=true then .inl (s++l.map g) else .inr ()
  | [],i,s=>by simp [foldE]
  | a :: l,i,s=>by
    unfold foldE
    by_cases h:q a=true
    · simp only [h,if_true]
      rw [fold_bnd q g l (i+1)]
      simp [h]
    · simp [h]
theorem env_W (l:List Bd) (hl:∀ b∈l,W b.v) (n:ByteArray):W (envB l n):=by
  unfold envB
  induction l with
  | nil=>exact (by omega:(0:Nat)<18446744073709551616)
  | cons b r ih=>
    unfold lookB
    split
    · exact hl b (by simp)
    · exact ih fun c hc=>hl c (by simp [hc])
set_option maxHeartbeats 8000000 in
theorem r_Value (l:List Bd) (hl:∀ b∈l,W b.v) (hln:l.length≤9223372036854775807) (t:Term):AllOk t→TOk t→t.count≤1000000→R P f_r08_Value [.agg t.row,.lst (l.map brow)]=some (.tup (valP l t)):=by
  have hE:=env_W l hl
  induction t using Term.ind with
  | h t ih=>
  intro h ht hc
  have hn:=allOk_self h
  unfold valP
  by_cases h1:t.op=1
  · have e1:(t.op=1)=True:=by simp [h1]
    have hargs:t.args=[]:=by
      have h9:=hn.ar.1
      rw [h1] at h9
      have:arity 1=0:=rfl
      rw [this] at h9
      exact List.length_eq_zero_iff.1 (by omega)
    rw [bound_var l h1 hargs,Term.valT_eq,if_pos h1]
    have hk:=r_Look l t.name hln
    unfold lookP at hk
    unfold envB
    cases hlk:lookB t.name l with
    | none=>
      rw [hlk] at hk
      (rw [r_r08_Value (lbY rfl),F_r08_Value];simp (disch:=omega) only [eqZ,↓gc_len,seval,-List.reduceReplicate,reduceCtorEq,allP,e1,q_r08_Look,hk])
      rfl
    | some v=>
      rw [hlk] at hk
      have hW:W v:=by have:=hE t.name;unfold envB at this;rw [hlk] at this;exact this
      have hcut:=n_rCut t.w v hW
      (rw [r_r08_Value (lbY rfl),F_r08_Value];simp (disch:=omega) only [eqZ,↓gc_len,seval,-List.reduceReplicate,reduceCtorEq,allP,e1,q_r08_Look,hk,q_r01_Cut,hcut])
      rfl
  · have e1:(t.op=1)=False:=by simp [h1]
    have hct:=Term.count_eq t
    have hlen:=Term.counts_len t.args
    obtain ⟨har,hin,h34⟩:=(val_ok (envB l) t h ht).2 h1
    have hloop:=loop_to (P:=P) (nt:=66) (lv:=[1,2,8,9]) (b:=B0_r08_Value) (rd:=none) (as:=t.args) (fun i (s:List Wd)=>e_rV l t s i) sW8 (fun _ s a=>if boundB l a=true then .inl (s++[⟨a.w,a.valT (envB l)⟩]) else .inr ()) (fun (_:Unit)=>outV8) (fun i s=>s.length=i)
      (fun i a s ha hi hs=>by
        have hm:=List.mem_of_getElem? ha
        have hac:=Term.counts_mem hm
        have hr:=ih a hm (allOk_arg h hm) (ht.args hm) (by omega)
        unfold valP at hr
        have hlt:((i:Int)<t.args.length)=True:=by simpa using hi
        have hx:=fun σ=>v_iadr (k:=.i64) (es:=5) (σ:=σ) (map_get (f:=Term.row) ha) a.row_len
        have hap:=v_append (σ:=[.pv (esOf 2 s) (s.map wdrow) false,.pv 2 [[.int .i64 a.w,.int .u64 (a.valT (envB l):Int)]] false]) (b:=0) (n:=s.length) (e:=esOf 2 s) (es:=2) (bytes:=16) (rows:=s.map wdrow) (new:=[[.int .i64 a.w,.int .u64 (a.valT (envB l):Int)]]) rfl (by simp) (esOf_or _ _ _) (by simp only [List.length_cons,List.length_nil];omega)
        cases hb:boundB l a with
        | true=>
          rw [hb,if_pos rfl] at hr
          refine ⟨fun s' he=>by simp at he;subst he;simp [hs],?_⟩
          simp only [B0_r08_Value,if_true]
          simp (disch:=omega) only [eqZ,↓gc_len,seval,-List.reduceReplicate,reduceCtorEq,allP,hlt,hx,q_r08_Value,hr,bld_w,bsl_w,hap,List.length_map,List.length_append,List.map_append,esOf_snoc,wdrow,e_rV,sW8]
        | false=>
          rw [hb,if_neg (by simp)] at hr
          refine ⟨fun s' he=>by simp at he,?_⟩
          simp only [B0_r08_Value,Bool.false_eq_true,if_false]
          simp (disch:=omega) only [eqZ,↓gc_len,seval,-List.reduceReplicate,reduceCtorEq,allP,hlt,hx,q_r08_Value,hr,List.length_map,e_rV,sW8,outV8]) (fun i s=>rfl) [] rfl
    rw [fold_bnd] at hloop
    rw [bound_args l t h1,Term.valT_eq,if_neg h1]
    cases hb:t.args.all (boundB l) with
    | false=>
      rw [hb,if_neg (by simp)] at hloop
      obtain ⟨⟨e,τ',σ',nt',rd'⟩,g1,g2,g3,g4⟩:=hloop
      simp only at g2 g3 g4
      subst g2
      have h':loopAt P L0_r08_Value [(1,.p (.lst (l.map brow))),(2,.p (.ptr t.row 0)),(8,.sl 0 0),(9,.p (.int .i64 0))] [.pv 0 [] false] 66 none=some (.ret,⟨τ',σ',nt',rd'⟩):=g1
      (rw [r_r08_Value (lbY rfl),F_r08_Value];simp (disch:=omega) only [eqZ,↓gc_len,seval,-List.reduceReplicate,reduceCtorEq,allP,e1,k0_r08_Value,h',g3,g4])
    | true=>
      rw [hb,if_pos rfl] at hloop
      obtain ⟨_,hloop⟩:=hloop
      have hv:([]:List Wd)++t.args.map (fun a=>(⟨a.w,a.valT (envB l)⟩:Wd))=Term.valsT (envB l) t.args:=by rw [Term.valsT_map];rfl
      rw [hv] at hloop
      have hvl:(Term.valsT (envB l) t.args).length=t.args.length:=by rw [Term.valsT_map];simp
      have hvN:((t.v.toNat:Nat):Int)=t.v:=by have:=ht.v.1;omega
      have h3:(Term.valsT (envB l) t.args).length≤3:=by rw [hvl];unfold ArOk at har;omega
      have hval:=r_value t.op t.w t.v.toNat (Term.valsT (envB l) t.args) h3 (by have:=ht.v;unfold U64 at this;show _<_;omega) (fun x hx=>Nat.lt_of_lt_of_le (hin x hx) (pow_c (cw_in x.w).2))
      rw [ref_comp hin h34,hvN] at hval
      have h':loopAt P L0_r08_Value [(1,.p (.lst (l.map brow))),(2,.p (.ptr t.row 0)),(8,.sl 0 0),(9,.p (.int .i64 0))] [.pv 0 [] false] 66 none=_:=hloop
      have hP:∀ k,purify (sW8 (Term.valsT (envB l) t.args)) (k+1) (.sl 0 (Term.valsT (envB l) t.args).length)=some (.lst ((Term.valsT (envB l) t.args).map wdrow)):=by
        intro k
        simp [purify]
      simp only [sW8] at hP
      generalize Term.valsT (envB l) t.args=vs at *
      (rw [r_r08_Value (lbY rfl),F_r08_Value];simp (disch:=omega) only [eqZ,↓gc_len,seval,-List.reduceReplicate,reduceCtorEq,allP,e1,k0_r08_Value,h',B0_r08_Value,Int.lt_irrefl,List.length_map,hP,q_r08_value,hval,e_rV,sW8])
theorem check_all {t:Term} (h:checkT t=0):AllOk t:=by
  unfold checkT at h
  split at h
  · rw [ckE_eq] at h
    split at h
    · rename_i h0;exact absurd h h0
    · rename_i h0
      exact firstN_zero (Classical.not_not.1 h0)
  · cases h
def evalP (l:List Bd) (t:Term):List PV:=if checkT t=0 then (if boundB l t=true then [.int .u64 (t.valT (envB l):Int),.int .i64 0] else [.int .u64 0,.int .i64 12]) else [.int .u64 0,.int .i64 (checkT t)]
theorem r_Eval (l:List Bd) (hl:∀ b∈l,W b.v) (hln:l.length≤9223372036854775807) (t:Term) (ht:TOk t) (hc:t.count≤1000000):R P f_r08_Eval [.agg t.row,.lst (l.map brow)]=some (.tup (evalP l t)):=by
  have hk:=s_r06_Check t ht hc
  unfold evalP
  rcases Classical.propComplete (checkT t=0) with c0 | c0
  · have h0:=of_eq_true c0
    rw [if_pos h0]
    have hv:=r_Value l hl hln t (check_all h0) ht hc
    rw [h0] at hk
    unfold valP at hv
    cases hb:boundB l t<;>rw [hb] at hv
    · rw [if_neg (by simp)] at hv
      (rw [r_r08_Eval (lbY rfl),F_r08_Eval];simp (disch:=omega) only [eqZ,↓gc_len,seval,-List.reduceReplicate,reduceCtorEq,allP,q_r06_Check,hk,q_r08_Value,hv])
    · rw [if_pos rfl] at hv
      (rw [r_r08_Eval (lbY rfl),F_r08_Eval];simp (disch:=omega) only [eqZ,↓gc_len,seval,-List.reduceReplicate,reduceCtorEq,allP,q_r06_Check,hk,q_r08_Value,hv])
  · rw [if_neg (of_eq_false c0)]
    (rw [r_r08_Eval (lbY rfl),F_r08_Eval];simp (disch:=omega) only [eqZ,↓gc_len,seval,-List.reduceReplicate,reduceCtorEq,allP,q_r06_Check,hk,c0])
theorem names_addU:∀ (l:List Term) (s:List V2) (n:ByteArray),(∃ v∈l.foldl addU s,v.name=n)↔(∃ v∈s,v.name=n)∨∃ u∈l,u.op=1∧u.name=n
  | [],s,n=>by simp
  | u :: l,s,n=>by
    rw [List.foldl_cons,names_addU l]
    constructor
    · rintro (⟨v,hv,hn⟩ | ⟨u',hu,h⟩)
      · rcases addU_iff.1 hv with h | ⟨h1,h2,_⟩
        · exact .inl ⟨v,h,hn⟩
        · subst h2;exact .inr ⟨u,by simp,h1,hn⟩
      · exact .inr ⟨u',by simp [hu],h⟩
    · rintro (⟨v,hv,hn⟩ | ⟨u',hu,h1,h2⟩)
      · exact .inl ⟨v,addU_iff.2 (.inl hv),hn⟩
      · rcases List.mem_cons.1 hu with rfl | hu
        · by_cases hex:∃ a∈s,a.name=u'.name
          · obtain ⟨a,ha,hn⟩:=hex
            exact .inl ⟨a,addU_iff.2 (.inl ha),hn.trans h2⟩
          · exact .inl ⟨⟨u'.name,u'.w⟩,addU_iff.2 (.inr ⟨h1,rfl,fun a ha hn=>hex ⟨a,ha,hn⟩⟩),h2⟩
        · exact .inr ⟨u',hu,h1,h2⟩
theorem look_0 {es:List (PV×AV)} {fr:Bool} {r:Store} {kl:Leaf} {k:PV} {z:AV} {o:Option AV} (hl:isLeaf kl k=true) (h:findKey kl k es=some o):lookupV (.map es fr :: r) kl z (.map 0) (.p k) true=some (mkTup [o.getD z,.p (.bool o.isSome)]):=by
  simp only [lookupV,lookV,List.getElem?_cons_zero,hl,if_true,h,Option.bind_some]
theorem look_p {es:List (PV×PV)} {kl:Leaf} {k:PV} {z:AV} {o:Option PV} (hl:isLeaf kl k=true) (h:findKey kl k es=some o):lookupV σ kl z (.p (.pmap es)) (.p k) false=some ((o.map AV.p).getD z):=by
  simp [lookupV,lookV,hl,h]
theorem mupd_0 {es es':List (PV×AV)} {r:Store} {kl:Leaf} {k:PV} {v:AV} (h:isLeaf kl k=true) (h':setKey kl k v es=some es'):mupdV (.map es false :: r) kl (.map 0) (.p k) v=some (.any,.map es' false :: r):=by
  simp [mupdV,h,h']
theorem ldM {M:List (PV×AV)} {fr fr':Bool} {r:Store}:loadV (.map M fr :: .av 1 [[.map 0]] fr' :: r) 1 false (.ptr 1 1 0 0)=some (.map 0):=rfl
end Go.AE.S
