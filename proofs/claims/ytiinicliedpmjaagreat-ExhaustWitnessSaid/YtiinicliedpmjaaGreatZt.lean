import Derived.Test.YtiinicliedpmjaaGreatZs
import Derived.Test.YtiinicliedpmjaaGreatE0
import Derived.Shelf.SlicesE.Clone
namespace Go.Proofs.YtiinicliedpmjaaGreat
open Go Go.AE Go.AE.S Go.Proofs
open Go.Shelf Go.RowKit Go.Lib Go.Sort
theorem cfW_lt (x y:V2):ltOf cfVW x y=ltNW x y:=by
  unfold ltOf cfVW cmpS cmpI ltNW slt
  cases h1:Op.bytesLess x.name.toList y.name.toList with
  | true=>rfl
  | false=>
    by_cases h2:x.name.toList=y.name.toList
    · by_cases h3:x.w<y.w
      · simp [h2,h3]
      · by_cases h4:y.w<x.w<;>simp [h2,h3,h4]
    · simp [h2]
theorem swoVW:SWO (ltOf cfVW) where
  irrefl x:=by rw [cfW_lt,ltNW_irrefl]
  trans x y z h1 h2:=by rw [cfW_lt] at *;exact ltNW_trans h1 h2
  ntrans x y z h1 h2:=by
    rw [cfW_lt] at *
    cases h:ltNW x z with
    | false=>rfl
    | true=>
      rcases ltNW_tri x y with h3 | rfl | h3
      · rw [h3] at h1;cases h1
      · rw [h] at h2;cases h2
      · have:=ltNW_trans h3 h;rw [this] at h2;cases h2
theorem cmpLays38 (blk off size:Nat) (w:World):CmpLays Tryz.prog 38 #[] encV 2 cfVW blk off size w:=fun _ _ _ _ x y=>closureW x y _
theorem enters38 (args:Array Value) (w:World):(callFunc 38 args).run Tryz.prog w=.ok (.enter 38 args) w:=enters_of Tryz.func38 (by kernel_rfl) rfl _ _
theorem sortedW_list {l:List V2} {d':Array V2} (hp:PermIn 0 l.toArray.size l.toArray d') (hs:SortedIn (ltOf cfVW) 0 l.toArray.size d'):d'=(isort ltNW l).toArray:=by
  obtain ⟨h1,_,h3⟩:=hp
  have e1:d'.extract 0 l.toArray.size=d':=by rw [← h1];simp
  have e2:l.toArray.extract 0 l.toArray.size=l.toArray:=by simp
  rw [e1,e2] at h3
  have:d'.toList=isort ltNW l:=by
    refine sortW_uniq (List.pairwise_iff_getElem.2 fun i j hi hj hij=>?_) (isort_sortW l) ((show d'.toList.Perm l by simpa using h3).trans (isort_perm ltNW l).symm)
    have hj':j<d'.size:=by simpa using hj
    have hi':i<d'.size:=by simpa using hi
    have h:=hs i j (Nat.zero_le _) hij (by rw [← h1];exact hj')
    rw [cfW_lt,getElem!_pos d' i hi',getElem!_pos d' j hj'] at h
    simpa using h
  rw [← this]
set_option maxRecDepth 100000 in
set_option maxHeartbeats 1000000 in
theorem sortW_fact {args:List AV} {σ σ':Store} {v:AV} (h:primSortT 2 f_exhaust_Vars_1 okV ltVW args σ=some (v,σ')):CallFact Tryz.prog cq f_slices_SortFunc_api_Var_api_Var args σ v σ':=by
  refine .inr ⟨rfl,fun own ok w us hS hrel=>?_⟩
  unfold primSortT at h
  split at h
  rotate_left
  · cases h
  rename_i b n f
  split at h
  rotate_left
  · cases h
  rename_i hf
  subst hf
  split at h
  rotate_left
  · cases h
  rename_i e rows ho
  split at h
  rotate_left
  · cases h
  rename_i hcond
  obtain ⟨hn,hbig,he,hok⟩:=hcond
  simp only [Option.some.injEq,Prod.mk.injEq] at h
  obtain ⟨rfl,rfl⟩:=h
  obtain ⟨l,rfl⟩:=rows_v hok
  have hnl:l.length=n:=by simpa using hn
  match us,hrel.len with
  | [x,y],_=>
  have hx:=hrel.rel 0 _ x rfl rfl
  have hy:=hrel.rel 1 _ y rfl rfl
  obtain ⟨lc,hl⟩:=hS.own_of ho
  have hvec:VecOk ⟨own,σ,ok,w⟩ lc e (rowsAV (l.map vrow)):=hS.obj b lc _ hl ho
  have hyv:y=.func (.func f_exhaust_Vars_1) #[] #[]:=by
    cases hy with
    | p h=>
      cases h with
      | fn _ _ vs hl _=>
        have:vs=[]:=List.length_eq_zero_iff.1 (by simpa using hl.symm)
        subst this
        rfl
  subst hyv
  have hxv:∃ ba,x=.slice ba n lc.cap∧(lc.cap≠0→ba=lc.addr):=by
    cases hx with
    | sl _ _ ba c' sh hs hnn hp=>
      have hs':sh=.vec e n:=by
        have:View.sh ⟨own,σ,ok,w⟩ b=some (.vec e n):=by simp [View.sh,ho,Obj.sh,hnl]
        rw [this] at hs
        exact (Option.some.inj hs).symm
      obtain ⟨q1,rfl⟩:=hp e lc hs' hl
      exact ⟨ba,rfl,q1⟩
  obtain ⟨ba,rfl,hba⟩:=hxv
  show Go.AE.Enters Tryz.prog _ ((callFunc 37 _).run Tryz.prog w)
  rw [enters37]
  have hunit:∀ V:View,VRel V (.p (.tup [])) (.tuple #[]):=fun V=>.p (.tup [] [] rfl (by simp))
  by_cases h0:n=0
  · subst h0
    have hl0:l=[]:=List.length_eq_zero_iff.1 hnl
    subst hl0
    refine callsIn_wide.2 (Calls.mono (AnyF.slices_SortFunc_none sortVar ba lc.cap (.func (.func 38) #[] #[]) w) ?_)
    rintro e' w' ⟨rfl,rfl⟩
    refine ⟨_,rfl,own,ok,?_,hunit _,?_⟩
    · have:σ.set b (.pv e (isort ltVW ([].map vrow)) false)=σ:=set_same ho
      rw [this];exact hS
    · have:σ.set b (.pv e (isort ltVW ([].map vrow)) false)=σ:=set_same ho
      rw [this];exact Step.refl _
  · have hcap:n≤lc.cap:=by have:=hvec.cap;simpa [rowsAV,hnl] using this
    have hcap0:lc.cap≠0:=by omega
    have he2:e=2:=by
      rcases he with h | h
      · have:=congrArg List.length h;simp at this;subst this;exact absurd hnl.symm h0
      · exact h
    subst he2
    obtain ⟨r,hr⟩:∃ r,lc.blk=some r:=by
      cases hb:lc.blk with
      | none=>exact absurd (hvec.nil hb) hcap0
      | some r=>exact ⟨r,rfl⟩
    obtain ⟨cc,ct,hh,hs,hcc⟩:=hvec.cells r hr
    have haddr:lc.addr=some ⟨r,0,none⟩:=by simp [Loc.addr,hr]
    have:=hba hcap0
    subst this
    rw [haddr]
    have hrl:r<w.heap.size:=(Array.getElem?_eq_some_iff.1 hh).1
    have hcell:=cell_holds hcc
    have hH:HoldsK encV 2 w r 0 l.toArray:=by
      intro j hj
      have hj':j<l.length*2:=by simpa using hj
      refine ⟨?_,?_⟩
      · rw [Nat.zero_add,cell_row hh,hcell j hj']
        rfl
      · have hhh:w.heap[r]? = some (.cells cc ct (0,0)):=hh
        simp [World.frozen?,hhh]
    have hcon:=AnyQ.slices_SortFunc sortVar 2 Tryz.isAgg67 Tryz.sizeOf67 encV (fun _=>rfl) (fun x v hv=>by simp [encV] at hv;rcases hv with rfl | rfl<;>rfl) cfVW swoVW 38 #[] r 0 lc.cap l.toArray w enters38 (cmpLays38 r 0 l.toArray.size w) hH hrl (by simpa [hnl] using hbig)
    have hsz:l.toArray.size=n:=by simpa using hnl
    rw [hsz] at hcon
    refine callsIn_wide.2 (Calls.mono hcon ?_)
    rintro e' w' ⟨rfl,d',m,os,hp,hso,rfl⟩
    rw [← hsz] at hp hso
    have hd':=sortedW_list hp hso
    subst hd'
    have hil:(isort ltNW l).length=l.length:=by
      have:=hp.1
      simpa using this
    have hpk:∀ q,(sortWorldK encV 2 w r 0 m (isort ltNW l).toArray os).heap[q]? = if q<w.heap.size then (w.heap.modify r (onCells (putCells id 0 (flatK encV 2 (isort ltNW l).toArray))))[q]? else os[q-w.heap.size]? := by
      intro q
      simp only [sortWorldK,putRowK,grow,putRow,mapBlock,Sort.ahead,Array.getElem?_append,Array.size_modify]
    have key:=hS.turn (l':=lc) (o':=.pv 2 (isort ltVW (l.map vrow)) false) (w':=sortWorldK encV 2 w r 0 m (isort ltNW l).toArray os) hl ho rfl
      (by
        simp only [Obj.sh,Sh.le,isort_map ltVW_row,List.length_map,hil]
        exact .inl ⟨trivial,.inr trivial,trivial⟩)
      rfl (by simp [sortWorldK,grow,putRowK,putRow,mapBlock,Sort.ahead]) (fun q hq hne=>by
        rw [hpk,if_pos hq,Array.getElem?_modify,if_neg (fun e=>hne (by rw [hr,e]))])
      (fun q _ hq=>.inl hq) (fun ee=>by
        have e9:rowsAV (isort ltVW (l.map vrow))=rowsAV ((isort ltNW l).map vrow):=by rw [isort_map ltVW_row]
        show VecOk _ lc 2 (rowsAV (isort ltVW (l.map vrow)))
        rw [e9]
        refine ⟨?_,?_,hvec.nil,fun h=>by omega,fun q hq=>?_⟩
        · intro y hy
          simp only [rowsAV,List.map_map,List.mem_map] at hy
          obtain ⟨v,_,rfl⟩:=hy
          rfl
        · simp only [rowsAV,List.length_map,hil,hnl];exact hcap
        · rw [hr,Option.some.injEq] at hq
          subst hq
          have hhh:w.heap[r]? = some (.cells cc ct (0,0)):=hh
          refine ⟨putCells id 0 (flatK encV 2 (isort ltNW l).toArray) cc,ct,?_,?_,fun k a ha=>?_⟩
          · rw [hpk,if_pos hrl,Array.getElem?_modify,if_pos rfl,hhh]
            rfl
          · simpa [putCells] using hs
          · obtain ⟨hk,rfl⟩:=rows_flat ha
            have hkc:k<cc.size:=by
              have:n*2≤lc.cap*2:=Nat.mul_le_mul_right _ hcap
              rw [hil,hnl] at hk
              omega
            refine ⟨(flatK encV 2 (isort ltNW l).toArray)[k]!,?_,?_,?_⟩
            · simp only [putCells,Array.getElem?_mapIdx,Array.getElem?_eq_getElem hkc,Option.map_some,Nat.zero_le,true_and,Nat.zero_add,size_flatK,Nat.sub_zero,id]
              rw [if_pos (by simpa using hk)]
            · rw [flat_encV _ _ (by simpa using hk)]
              split<;>rfl
            · rw [flat_encV _ _ (by simpa using hk)]
              split
              · exact .p (.str _)
              · exact .p (.int _ _))
    exact ⟨_,rfl,_,_,key.1,hunit _,key.2⟩
theorem compact_small (ba:Option Addr) (n c:Nat) (hn:n<2) (w:World):Calls Tryz.prog 42 #[.slice ba n c] w fun e w'=>e=.returned (.slice ba n c)∧w'=w:=by
  go_enter Tryz.func42,Tryz.ntmps42
  go_wp2
  go_ret
  exact ⟨rfl,rfl⟩
theorem run_from (d:Array V2):∀ (k i:Nat),i+k=d.size→1≤i→((List.range' i k).filter (keeps d)).map (d[·]!)=runV d[i-1]! (d.toList.drop i)
  | 0,i,h,_=>by
    rw [List.drop_eq_nil_of_le (by simp;omega)]
    rfl
  | k+1,i,h,h1=>by
    have hi:i<d.toList.length:=by simp;omega
    have ih:=run_from d k (i+1) (by omega) (by omega)
    rw [List.range'_succ,List.drop_eq_getElem_cons hi]
    have e:d.toList[i]=d[i]! := by rw [getElem!_pos d i (by simpa using hi)];simp
    rw [e]
    simp only [Nat.add_sub_cancel] at ih
    by_cases hk:d[i]! = d[i-1]!
    · rw [List.filter_cons,keeps_neg (by omega) hk,if_neg (by simp),ih]
      have:d[i]!.name=d[i-1]!.name∧d[i]!.w=d[i-1]!.w:=⟨by rw [hk],by rw [hk]⟩
      rw [runV,if_pos this,hk]
    · rw [List.filter_cons,keeps_pos hk,if_pos rfl,List.map_cons,ih]
      have:¬ (d[i]!.name=d[i-1]!.name∧d[i]!.w=d[i-1]!.w):=fun x=>hk (v2_ext x.1 x.2)
      rw [runV,if_neg this]
theorem up_compV (l:List V2):compactUpTo l.toArray l.toArray.size=compV l:=by
  cases l with
  | nil=>rfl
  | cons a r=>
    have h:=run_from (a :: r).toArray r.length 1 (by simp;omega) (Nat.le_refl _)
    have hs:(a :: r).toArray.size=r.length+1:=by simp
    unfold compactUpTo
    rw [hs,List.range_eq_range',List.range'_succ,List.filter_cons,keeps_lt_one _ 0 (by omega),if_pos rfl,List.map_cons]
    rw [h]
    rfl
theorem enters42 (args:Array Value) (w:World):(callFunc 42 args).run Tryz.prog w=.ok (.enter 42 args) w:=enters_of Tryz.func42 (by kernel_rfl) rfl _ _
theorem runV_len (l:List V2):∀ p,(runV p l).length≤l.length:=by
  induction l with
  | nil=>intro p;simp [runV]
  | cons a r ih=>intro p;unfold runV;split;exact Nat.le_succ_of_le (ih p);simp [ih a]
theorem compV_len (l:List V2):(compV l).length≤l.length:=by cases l with | nil=>simp [compV] | cons a r=>simp [compV,runV_len]
set_option maxRecDepth 100000 in
set_option maxHeartbeats 4000000 in
theorem compact_fact {args:List AV} {σ σ':Store} {v:AV} (h:primCompact 2 okV args σ=some (v,σ')):CallFact Tryz.prog cq f_slices_Compact_api_Var_api_Var args σ v σ':=by
  refine .inr ⟨rfl,fun own ok w us hS hrel=>?_⟩
  unfold primCompact at h
  split at h
  rotate_left
  · cases h
  rename_i b n
  split at h
  rotate_left
  · cases h
  rename_i e rows ho
  split at h
  rotate_left
  · cases h
  rename_i hcond
  obtain ⟨hn,hbig,he,hok⟩:=hcond
  simp only [Option.some.injEq,Prod.mk.injEq] at h
  obtain ⟨rfl,rfl⟩:=h
  obtain ⟨l,rfl⟩:=rows_v hok
  have hnl:l.length=n:=by simpa using hn
  match us,hrel.len with
  | [x],_=>
  have hx:=hrel.rel 0 _ x rfl rfl
  obtain ⟨lc,hl⟩:=hS.own_of ho
  have hvec:VecOk ⟨own,σ,ok,w⟩ lc e (rowsAV (l.map vrow)):=hS.obj b lc _ hl ho
  have hbo:b<own.length:=(List.getElem?_eq_some_iff.1 hl).1
  have hbσ:b<σ.length:=(List.getElem?_eq_some_iff.1 ho).1
  have hlenσ:σ.length=own.length:=hS.len.symm
  have hxv:∃ ba,x=.slice ba n lc.cap∧(lc.cap≠0→ba=lc.addr):=by
    cases hx with
    | sl _ _ ba c' sh hs hnn hp=>
      have hs':sh=.vec e n:=by
        have:View.sh ⟨own,σ,ok,w⟩ b=some (.vec e n):=by simp [View.sh,ho,AE.Obj.sh,hnl]
        rw [this] at hs
        exact (Option.some.inj hs).symm
      obtain ⟨q1,rfl⟩:=hp e lc hs' hl
      exact ⟨ba,rfl,q1⟩
  obtain ⟨ba,rfl,hba⟩:=hxv
  rw [compactR_row]
  show Go.AE.Enters Tryz.prog _ ((callFunc 42 _).run Tryz.prog w)
  rw [enters42]
  by_cases h2:n<2
  · have hcv:compV l=l:=by
      match l,hnl with
      | [],_=>rfl
      | [a],_=>rfl
      | a :: c :: r,hh=>simp at hh;omega
    rw [hcv,List.length_map,hnl]
    refine callsIn_wide.2 (Calls.mono (compact_small ba n lc.cap h2 w) ?_)
    rintro e' w' ⟨rfl,rfl⟩
    have key:=hS.recast hl ho rfl rfl lc (.pv e (l.map vrow) false) rfl (fun ee=>hvec.mono ee (fun _ _=>rfl))
    refine ⟨_,rfl,_,_,key.1,?_,key.2⟩
    refine .sl _ _ _ _ (.vec e n) ?_ ?_ ?_
    · simp [View.sh,AE.Obj.sh,hnl]
    · intro es m hm;cases hm;exact Nat.le_refl _
    · intro es l1 hm h1
      rw [hlenσ] at h1
      have:l1=lc:=by simpa using h1.symm
      subst this
      exact ⟨hba,rfl⟩
  · have hcap:n≤lc.cap:=by have:=hvec.cap;simpa [rowsAV,hnl] using this
    have hcap0:lc.cap≠0:=by omega
    have he2:e=2:=by
      rcases he with h | h
      · have:=congrArg List.length h;simp at this;subst this;exact absurd hnl.symm (by simp;omega)
      · exact h
    subst he2
    obtain ⟨r,hr⟩:∃ r,lc.blk=some r:=by
      cases hb:lc.blk with
      | none=>exact absurd (hvec.nil hb) hcap0
      | some r=>exact ⟨r,rfl⟩
    obtain ⟨cc,ct,hh,hs,hcc⟩:=hvec.cells r hr
    have haddr:lc.addr=some ⟨r,0,none⟩:=by simp [Loc.addr,hr]
    have:=hba hcap0
    subst this
    rw [haddr]
    have hrl:r<w.heap.size:=(Array.getElem?_eq_some_iff.1 hh).1
    have hcell:=cell_holds hcc
    have hH:HoldsK encV 2 w r 0 l.toArray:=by
      intro j hj
      have hj':j<l.length*2:=by simpa using hj
      refine ⟨?_,?_⟩
      · rw [Nat.zero_add,cell_row hh,hcell j hj']
        rfl
      · have hhh:w.heap[r]? = some (.cells cc ct (0,0)):=hh
        simp [World.frozen?,hhh]
    have hsz:l.toArray.size=n:=by simpa using hnl
    have hcon:=compact_run r lc.cap l.toArray w hH (by rw [hsz];exact hbig) (by rw [hsz];exact hcap)
    rw [up_compV,hsz] at hcon
    refine callsIn_wide.2 (Calls.mono hcon ?_)
    rintro e' w' ⟨rfl,q,F,hF,hF1,hF2,rfl⟩
    rw [hsz] at hF
    rw [up_compV] at hF2
    have hpk:∀ q':Nat,(putRow id (Sort.ahead w q) r 0 F).heap[q']? = (w.heap.modify r (onCells (putCells id 0 F)))[q']? := by
      intro q'
      simp only [putRow,mapBlock,Sort.ahead]
    have hhr:(putRow id (Sort.ahead w q) r 0 F).heap[r]? = some (.cells (putCells id 0 F cc) ct (0,0)):=by
      have hhh:w.heap[r]? = some (.cells cc ct (0,0)):=hh
      rw [hpk,Array.getElem?_modify,if_pos rfl,hhh]
      rfl
    have hpc:∀ k,k<n*2→(putCells id 0 F cc)[k]? = some F[k]! := by
      intro k hk
      have hkc:k<cc.size:=by
        have:n*2≤lc.cap*2:=Nat.mul_le_mul_right _ hcap
        omega
      simp only [putCells,Array.getElem?_mapIdx,Array.getElem?_eq_getElem hkc,Option.map_some,Nat.zero_le,true_and,Nat.zero_add,Nat.sub_zero,id]
      rw [if_pos (by omega)]
    have key:=hS.turn (l':=lc) (o':=.av 2 (List.replicate n [.any,.any]) false) (w':=putRow id (Sort.ahead w q) r 0 F) hl ho rfl
      (by
        simp only [AE.Obj.sh,Sh.le,List.length_map,List.length_replicate,hnl]
        exact .inl ⟨trivial,.inr trivial,trivial⟩)
      rfl (by simp [putRow,mapBlock,Sort.ahead]) (fun q' hq hne=>by
        rw [hpk,Array.getElem?_modify,if_neg (fun e=>hne (by rw [hr,e]))])
      (fun q' _ hq=>.inl hq) (fun ee=>by
        refine ⟨?_,?_,hvec.nil,fun h=>by omega,fun q' hq=>?_⟩
        · intro y hy
          rw [List.eq_of_mem_replicate hy]
          rfl
        · simpa using hcap
        · rw [hr,Option.some.injEq] at hq
          subst hq
          refine ⟨_,ct,hhr,by simpa [putCells] using hs,fun k a ha=>?_⟩
          have hk:k<n*2:=by
            have:=(List.getElem?_eq_some_iff.1 ha).1
            rw [flatten_length (es:=2) (fun x hx=>by rw [List.eq_of_mem_replicate hx];rfl),List.length_replicate] at this
            exact this
          have ha':a=.any:=by
            have hm:=List.mem_of_getElem? ha
            simp only [List.mem_flatten] at hm
            obtain ⟨row,h1,h2⟩:=hm
            rw [List.eq_of_mem_replicate h1] at h2
            simpa using h2
          subst ha'
          exact ⟨_,hpc k hk,hF1 k (by omega),.any _⟩)
    have ho2:(σ.set b (.av 2 (List.replicate n [.any,.any]) false))[b]? = some (.av 2 (List.replicate n [.any,.any]) false):=List.getElem?_set_self hbσ
    have hl2:(own.set b lc)[b]? = some lc:=List.getElem?_set_self hbo
    have key2:=key.1.recast hl2 ho2 rfl rfl lc (.pv 2 ((compV l).map vrow) false) rfl (fun ee=>by
      have hcl:=compV_len l
      refine ⟨?_,?_,hvec.nil,fun h=>by omega,fun q' hq=>?_⟩
      · intro y hy
        simp only [rowsAV,List.map_map,List.mem_map] at hy
        obtain ⟨v,_,rfl⟩:=hy
        rfl
      · simp only [rowsAV,List.length_map];omega
      · rw [hr,Option.some.injEq] at hq
        subst hq
        refine ⟨_,ct,hhr,by simpa [putCells] using hs,fun k a ha=>?_⟩
        obtain ⟨hk,rfl⟩:=rows_flat ha
        have hk2:k / 2<(compV l).length:=by omega
        have hx:(compV l)[k / 2]? = some ((compV l).toArray[k / 2]!):=by
          rw [getElem!_pos _ _ (by simpa using hk2),List.getElem?_eq_getElem hk2]
          simp
        have hf:=hF2 (k / 2) _ hx (k % 2) (by omega)
        have hkk:k / 2*2+k % 2=k:=by omega
        rw [hkk] at hf
        refine ⟨F[k]!,hpc k (by omega),hF1 k (by omega),?_⟩
        rw [hf]
        have h3:k % 2=0∨k % 2=1:=by omega
        rcases h3 with h3 | h3<;>rw [h3]
        · exact .p (.str _)
        · exact .p (.int _ _))
    rw [List.set_set] at key2
    refine ⟨_,rfl,_,_,key2.1,?_,key.2.trans key2.2⟩
    rw [List.length_map]
    refine .sl _ _ _ _ (.vec 2 (compV l).length) ?_ ?_ ?_
    · simp [View.sh,AE.Obj.sh]
    · intro es m hm;cases hm;exact Nat.le_refl _
    · intro es l1 hm h1
      have:l1=lc:=by
        rw [hlenσ] at h1
        simpa using h1.symm
      subst this
      exact ⟨fun _=>haddr.symm,rfl⟩
def cloneT_ren:Go.Shelf.Ren:=⟨fun | 41=>45 | n=>n,fun | 22=>22 | 23=>34 | 4=>4 | n=>n,fun | n=>n⟩
theorem cloneT:Go.Proofs.SlLaysE0.n41 Tryz.prog cloneT_ren:={
  mixed:=by kernel_rfl,
  f41:=⟨Tryz.f45.name,by decide,Tryz.func45.trans (congrArg some (by kernel_rfl))⟩,
  t4:=Tryz.underlying4,
  a4:=Tryz.isAgg4,
  z4:=Tryz.sizeOf4,
  v4:=Tryz.zeroValue4,
  t22:=Tryz.underlying22,
  a22:=Tryz.isAgg22,
  z22:=Tryz.sizeOf22,
  v22:=Tryz.zeroValue22}
theorem enters45 (args:Array Value) (w:World):(callFunc 45 args).run Tryz.prog w=.ok (.enter 45 args) w:=enters_of Tryz.func45 (by kernel_rfl) rfl _ _
theorem info_some:(Tryz.prog.info? 34).isSome=true:=by kernel_rfl
noncomputable def infoT:TypeInfo:=(Tryz.prog.info? 34).get info_some
theorem clone_zero (a:Addr) (c:Nat) (w:World):Calls Tryz.prog 45 #[.slice (some a) 0 c] w fun e w'=>(∃ a',e=.returned (.slice a' 0 0))∧w'=w.alloc (Go.Obj.cells #[] 34):=by
  have q22:∀ (w:World) (a:Option Addr) (n c n' c':Nat),(binOp .eql 22 (.slice a n c) (.slice none n' c')).run Tryz.prog w=.ok (.bool a.isNone) w:=fun w a n c n' c'=>Lib.run_eql_slice_nil w _ _ a n c n' c' Tryz.underlying22
  go_enter Tryz.func45,Tryz.ntmps45
  go_wp2
  go_ret
  exact ⟨⟨_,rfl⟩,rfl⟩
theorem clone_nil (n c:Nat) (w:World):Calls Tryz.prog 45 #[.slice none n c] w fun e w'=>e=.returned (.slice none 0 0)∧w'=w:=AnyE.slices_Clone_nil cloneT n c w
set_option maxRecDepth 100000 in
set_option maxHeartbeats 4000000 in
theorem clone_fact {args:List AV} {σ σ':Store} {v:AV} (h:primClone args σ=some (v,σ')):CallFact Tryz.prog cq f_slices_Clone_api_Term_api_Term args σ v σ':=by
  refine .inr ⟨rfl,fun own ok w us hS hrel=>?_⟩
  unfold primClone at h
  split at h
  rotate_left
  · cases h
  rename_i rows
  split at h
  rotate_left
  · cases h
  rename_i hcond
  obtain ⟨hbig,hw⟩:=hcond
  simp only [Option.some.injEq,Prod.mk.injEq] at h
  obtain ⟨rfl,rfl⟩:=h
  match us,hrel.len with
  | [x],_=>
  have hx:=(hrel.rel 0 _ x rfl rfl).p_inv
  have hlenσ:own.length=σ.length:=hS.len
  show Go.AE.Enters Tryz.prog _ ((callFunc 45 _).run Tryz.prog w)
  rw [enters45]
  have hnilv:∀ (a:Option Addr) (w':World),VRel ⟨own++[⟨none,0⟩],σ++[.pv 5 [] false],ok,w'⟩ (.sl σ.length 0) (.slice a 0 0):=fun a w'=>by
    refine .sl _ _ _ _ (.vec 5 0) ?_ ?_ ?_
    · simp [View.sh,AE.Obj.sh]
    · intro es m hm;cases hm;exact Nat.le_refl _
    · intro es l1 hm h1
      have:l1=⟨none,0⟩:=by rw [← hlenσ] at h1;simpa using h1.symm
      subst this
      exact ⟨fun h=>absurd rfl h,rfl⟩
  have hnilo:∀ (V:View),VecOk V ⟨none,0⟩ 5 (rowsAV []):=fun V=>⟨by simp [rowsAV],by simp [rowsAV],fun _=>rfl,fun h=>by omega,fun r h=>by cases h⟩
  generalize hq:PV.lst rows=q at hx
  cases hx with
  | int | bool | str | nilp | nilf | nilm | agg | tup | ptr | fn | pmap=>cases hq
  | lst0 a c=>
    cases hq
    cases a with
    | none=>
      refine callsIn_wide.2 (Calls.mono (clone_nil 0 c w) ?_)
      rintro e' w' ⟨rfl,rfl⟩
      have key:=hS.push ⟨none,0⟩ (.pv 5 [] false) w' rfl (Nat.le_refl _) (fun _ _=>rfl) (fun r h=>by cases h) (fun _=>hnilo _)
      exact ⟨_,rfl,_,_,key.1,hnilv _ _,key.2⟩
    | some a=>
      refine callsIn_wide.2 (Calls.mono (clone_zero a c w) ?_)
      rintro e' w' ⟨⟨a',rfl⟩,rfl⟩
      have key:=hS.push ⟨none,0⟩ (.pv 5 [] false) (w.alloc (Go.Obj.cells #[] 34)) rfl (by rw [World.size_alloc];exact Nat.le_succ _) (fun b hb=>by
        have hb':b<w.heap.size:=hb
        rw [show (w.alloc (Go.Obj.cells #[] 34)).heap=w.heap.push (Go.Obj.cells #[] 34) from rfl,Array.getElem?_push,if_neg (Nat.ne_of_lt hb')]) (fun r h=>by cases h) (fun _=>hnilo _)
      exact ⟨_,rfl,_,_,key.1,hnilv _ _,key.2⟩
  | lst rows' r off c es cv hr hokr hc hes hcell hone hp=>
    cases hq
    have hes5:es=5:=by
      obtain ⟨row,hrow⟩:=List.exists_mem_of_ne_nil rows hr
      rw [← hes row hrow]
      simpa using List.all_eq_true.1 hw row hrow
    subst hes5
    have hn:rows.length≤maxLen:=by unfold maxLen;omega
    have hnl:((List.range (rows.length*5)).map cv).length=rows.length*5:=by simp
    have hcon:=AnyE.slices_Clone cloneT infoT (.agg #[.int .i64 0,.int .i64 0,.int .u64 0,.string ⟨#[]⟩,.slice none 0 0]) 5 64 (Option.some_get _).symm (by kernel_rfl) (by kernel_rfl) (by kernel_rfl) rfl (by decide) Tryz.sizeOf34 r off rows.length c ((List.range (rows.length*5)).map cv) w hnl hn hbig
      (fun j u hj=>by
        rw [List.getElem?_map] at hj
        have hj2:j<rows.length*5:=by
          rcases Nat.lt_or_ge j (rows.length*5) with h | h
          · exact h
          · rw [List.getElem?_eq_none (by simpa using h)] at hj;cases hj
        rw [List.getElem?_range hj2] at hj
        cases hj
        exact hcell j hj2)
      (fun u hu=>by
        obtain ⟨j,hj,rfl⟩:=List.mem_map.1 hu
        exact hone j (List.mem_range.1 hj))
    refine callsIn_wide.2 (Calls.mono hcon ?_)
    rintro e' w' ⟨v',rfl,⟨_,hown⟩,_,hbel⟩
    have hrl:0<rows.length:=List.length_pos_iff.2 hr
    rcases hown with ⟨_,h0⟩ | ⟨g,cap,cur,rfl,hg,hh,hcap,_,hcs,htk⟩
    · omega
    have hgl:g<w'.heap.size:=(Array.getElem?_eq_some_iff.1 hh).1
    have hcur:∀ k,k<rows.length*5→cur[k]? = some (cv k):=fun k hk=>by
      have h1:(cur.toList.take (rows.length*5))[k]? = some (cv k):=by rw [htk,List.getElem?_map,List.getElem?_range hk];rfl
      rw [List.getElem?_take_of_lt hk] at h1
      simpa using h1
    have henv:env w'=env w:=by
      show (w'.os,w'.output,w'.tape)=(w.os,w.output,w.tape)
      rw [hbel.os,hbel.tape,hbel.output]
    have key:=hS.push ⟨some g,cap⟩ (.pv 5 rows false) w' henv hbel.size (fun b hb=>hbel.block b hb) (fun r h=>by cases h;exact ⟨hg,hgl⟩) (fun ee=>by
      refine ⟨?_,?_,fun h=>(by cases h),fun h=>(by omega),fun q' hq=>?_⟩
      · intro y hy
        simp only [rowsAV,List.mem_map] at hy
        obtain ⟨row,h1,rfl⟩:=hy
        rw [List.length_map]
        exact hes row h1
      · simpa [rowsAV] using hcap
      · cases hq
        refine ⟨cur,_,hh,(by show cap*5≤cur.size;simp only [hcs,Nat.le_refl]),fun k a ha=>?_⟩
        have hfl:(rowsAV rows).flatten=rows.flatten.map .p:=by simp [rowsAV,List.map_flatten]
        rw [hfl,List.getElem?_map,Option.map_eq_some_iff] at ha
        obtain ⟨pp,hpp,rfl⟩:=ha
        have hk:k<rows.length*5:=by
          have:=(List.getElem?_eq_some_iff.1 hpp).1
          rw [flatten_length (es:=5) hes] at this
          exact this
        exact ⟨cv k,hcur k hk,hone k hk,.p ((hp k pp hpp).mono (fun _ h=>ee.ok _ h) ee.keep)⟩)
    refine ⟨_,rfl,_,_,key.1,?_,key.2⟩
    refine .sl _ _ _ _ (.vec 5 rows.length) ?_ ?_ ?_
    · simp [View.sh,AE.Obj.sh]
    · intro es m hm;cases hm;exact Nat.le_refl _
    · intro es l1 hm h1
      have:l1=⟨some g,cap⟩:=by rw [← hlenσ] at h1;simpa using h1.symm
      subst this
      exact ⟨fun _=>rfl,rfl⟩
end Go.Proofs.YtiinicliedpmjaaGreat
