import Derived.Test.YtojhplpninjplaaGreatZj
import Derived.Test.YtojhplpninjplaaGreatC3
import Derived.Shelf.SlSortCmp.NoneTotal
import Derived.Shelf.Small.Strs
import Derived.WalkKit
namespace Go.Proofs.YtojhplpninjplaaGreat
open Go Go.AE Go.AE.S Go.Proofs
open Go.Shelf Go.RowKit Go.Lib Go.Sort
def sortVar_ren:Go.Shelf.Ren:=⟨fun | 6=>27 | 15=>59 | 14=>58 | 28=>96 | 29=>97 | 20=>88 | 21=>89 | 22=>90 | 23=>91 | 24=>92 | 25=>93 | 26=>94 | 27=>95 | 46=>118 | 47=>119 | 48=>120 | 49=>121 | 50=>122 | 57=>137 | n=>n,fun | 22=>25 | 24=>61 | 25=>71 | 3=>3 | 39=>115 | 0=>0 | 53=>145 | 55=>41 | 4=>4 | 46=>139 | 45=>138 | 50=>127 | 5=>5 | 9=>9 | 66=>155 | 70=>159 | 76=>168 | 77=>169 | n=>n,fun | n=>n⟩
theorem sortVar:Go.Proofs.SlLaysF0.n6 Tryz.prog sortVar_ren:={
  mixed:=by kernel_rfl,
  f6:=⟨Tryz.f27.name,by decide,Tryz.func27.trans (congrArg some (by kernel_rfl))⟩,
  f14:=⟨Tryz.f58.name,by decide,Tryz.func58.trans (congrArg some (by kernel_rfl))⟩,
  f15:=Tryz.func59.trans (congrArg some (by kernel_rfl)),
  f20:=⟨Tryz.f88.name,by decide,Tryz.func88.trans (congrArg some (by kernel_rfl))⟩,
  f21:=⟨Tryz.f89.name,by decide,Tryz.func89.trans (congrArg some (by kernel_rfl))⟩,
  f22:=⟨Tryz.f90.name,by decide,Tryz.func90.trans (congrArg some (by kernel_rfl))⟩,
  f23:=⟨Tryz.f91.name,by decide,Tryz.func91.trans (congrArg some (by kernel_rfl))⟩,
  f24:=⟨Tryz.f92.name,by decide,Tryz.func92.trans (congrArg some (by kernel_rfl))⟩,
  f25:=⟨Tryz.f93.name,by decide,Tryz.func93.trans (congrArg some (by kernel_rfl))⟩,
  f26:=⟨Tryz.f94.name,by decide,Tryz.func94.trans (congrArg some (by kernel_rfl))⟩,
  f27:=⟨Tryz.f95.name,by decide,Tryz.func95.trans (congrArg some (by kernel_rfl))⟩,
  f28:=Tryz.func96.trans (congrArg some (by kernel_rfl)),
  f29:=Tryz.func97.trans (congrArg some (by kernel_rfl)),
  f46:=⟨Tryz.f118.name,by decide,Tryz.func118.trans (congrArg some (by kernel_rfl))⟩,
  f47:=Tryz.func119.trans (congrArg some (by kernel_rfl)),
  f48:=Tryz.func120.trans (congrArg some (by kernel_rfl)),
  f49:=⟨Tryz.f121.name,by decide,Tryz.func121.trans (congrArg some (by kernel_rfl))⟩,
  f50:=⟨Tryz.f122.name,by decide,Tryz.func122.trans (congrArg some (by kernel_rfl))⟩,
  f57:=⟨Tryz.f137.name,by decide,Tryz.func137.trans (congrArg some (by kernel_rfl))⟩,
  t0:=Tryz.underlying0,
  a0:=Tryz.isAgg0,
  z0:=Tryz.sizeOf0,
  v0:=Tryz.zeroValue0,
  t3:=Tryz.underlying3,
  a3:=Tryz.isAgg3,
  z3:=Tryz.sizeOf3,
  v3:=Tryz.zeroValue3,
  t4:=Tryz.underlying4,
  a4:=Tryz.isAgg4,
  z4:=Tryz.sizeOf4,
  v4:=Tryz.zeroValue4,
  t5:=Tryz.underlying5,
  a5:=Tryz.isAgg5,
  z5:=Tryz.sizeOf5,
  v5:=Tryz.zeroValue5,
  t9:=Tryz.underlying9,
  a9:=Tryz.isAgg9,
  z9:=Tryz.sizeOf9,
  v9:=Tryz.zeroValue9,
  t22:=Tryz.underlying25,
  a22:=Tryz.isAgg25,
  z22:=Tryz.sizeOf25,
  v22:=Tryz.zeroValue25,
  t25:=Tryz.underlying71,
  a25:=Tryz.isAgg71,
  z25:=Tryz.sizeOf71,
  v25:=Tryz.zeroValue71,
  t39:=Tryz.underlying115,
  a39:=Tryz.isAgg115,
  z39:=Tryz.sizeOf115,
  v39:=Tryz.zeroValue115,
  t45:=Tryz.underlying138,
  a45:=Tryz.isAgg138,
  z45:=Tryz.sizeOf138,
  v45:=Tryz.zeroValue138,
  t46:=Tryz.underlying139,
  a46:=Tryz.isAgg139,
  z46:=Tryz.sizeOf139,
  v46:=Tryz.zeroValue139,
  t50:=Tryz.underlying127,
  a50:=Tryz.isAgg127,
  z50:=Tryz.sizeOf127,
  v50:=Tryz.zeroValue127,
  t53:=Tryz.underlying145,
  a53:=Tryz.isAgg145,
  z53:=Tryz.sizeOf145,
  v53:=Tryz.zeroValue145,
  t55:=Tryz.underlying41,
  a55:=Tryz.isAgg41,
  z55:=Tryz.sizeOf41,
  v55:=Tryz.zeroValue41,
  t66:=Tryz.underlying155,
  a66:=Tryz.isAgg155,
  z66:=Tryz.sizeOf155,
  v66:=Tryz.zeroValue155,
  t70:=Tryz.underlying159,
  a70:=Tryz.isAgg159,
  z70:=Tryz.sizeOf159,
  v70:=Tryz.zeroValue159,
  t76:=Tryz.underlying168,
  a76:=Tryz.isAgg168,
  z76:=Tryz.sizeOf168,
  v76:=Tryz.zeroValue168,
  t77:=Tryz.underlying169,
  a77:=Tryz.isAgg169,
  z77:=Tryz.sizeOf169,
  v77:=Tryz.zeroValue169}
def sortStr_ren:Go.Shelf.Ren:=⟨fun | 106=>29 | 213=>60 | 265=>98 | n=>n,fun | 9=>9 | 3=>3 | n=>n,fun | n=>n⟩
theorem sortStr:Go.Proofs.Lays.n106 Tryz.prog sortStr_ren:={
  mixed:=by kernel_rfl,
  f106:=Tryz.func29.trans (congrArg some (by kernel_rfl)),
  f213:=Tryz.func60.trans (congrArg some (by kernel_rfl)),
  f265:=Tryz.func98.trans (congrArg some (by kernel_rfl)),
  t3:=Tryz.underlying3,
  a3:=Tryz.isAgg3,
  z3:=Tryz.sizeOf3,
  v3:=Tryz.zeroValue3,
  t9:=Tryz.underlying9,
  a9:=Tryz.isAgg9,
  z9:=Tryz.sizeOf9,
  v9:=Tryz.zeroValue9}
instance:Inhabited V2:=⟨⟨⟨#[]⟩,0⟩⟩
def encV (v:V2):List Value:=[.string v.name,.int .i64 v.w]
def cfV (x y:V2):Int:=Lib.compareBytes x.name.data.toList y.name.data.toList
set_option maxHeartbeats 1000000 in
theorem closure_run (x y:V2) (W:World):Calls Tryz.prog 28 #[.agg #[.string x.name,.int .i64 x.w],.agg #[.string y.name,.int .i64 y.w]] W fun e w'=>e=.returned (.int .i64 (cfV x y))∧∃ q os',w'=grow (W.drewN q) os':=by
  have hcon:=fun W'=>Any.strings_Compare sortStr x.name y.name W'
  change ∀ W',Calls Tryz.prog 29 _ _ _ at hcon
  unfold cfV
  generalize Lib.compareBytes x.name.data.toList y.name.data.toList=r at hcon ⊢
  go_enter Tryz.func28,Tryz.ntmps28
  go_wp2_with (go_at_call 29;refine (hcon _).mono ?_;rintro e w' ⟨rfl,rfl⟩)
  go_ret
  exact ⟨rfl,0,_,by rw [alloc_eq_grow,alloc_eq_grow,grow_grow];rfl⟩
theorem cf_slt (x y:V2):ltOf cfV x y=slt x.name y.name:=by
  unfold ltOf cfV
  rw [cmp_bytes]
  rcases slt_tri x.name y.name with h | h | h
  · rw [str_lt h,h];rfl
  · rw [h,str_eq,slt_irrefl];rfl
  · rw [str_gt h,slt_asym h];rfl
theorem swoV:SWO (ltOf cfV) where
  irrefl x:=by rw [cf_slt,slt_irrefl]
  trans x y z h1 h2:=by rw [cf_slt] at *;exact slt_trans h1 h2
  ntrans x y z h1 h2:=by
    rw [cf_slt] at *
    rcases slt_tri x.name y.name with h | h | h
    · rw [h] at h1;cases h1
    · rw [h];exact h2
    · rcases slt_tri y.name z.name with h' | h' | h'
      · rw [h'] at h2;cases h2
      · rw [← h'];exact h1
      · exact slt_asym (slt_trans h' h)
theorem cmpLays28 (blk off size:Nat) (w:World):CmpLays Tryz.prog 28 #[] encV 2 cfV blk off size w:=fun _ _ _ _ x y=>closure_run x y _
theorem enters27 (args:Array Value) (w:World):(callFunc 27 args).run Tryz.prog w=.ok (.enter 27 args) w:=enters_of Tryz.func27 (by kernel_rfl) rfl _ _
theorem enters28 (args:Array Value) (w:World):(callFunc 28 args).run Tryz.prog w=.ok (.enter 28 args) w:=enters_of Tryz.func28 (by kernel_rfl) rfl _ _
theorem sorted_is {l m:List V2} (hd:DistN l) (hp:m.Perm l) (hs:∀ (i j:Nat) (a b:V2),i<j→m[i]? = some a→m[j]? = some b→slt b.name a.name=false):m=isort ltN l:=by
  have hdm:DistN m:=(hp.pairwise_iff (fun h e=>h e.symm)).2 hd
  refine sort_uniq (List.pairwise_iff_getElem.2 fun i j hi hj hij=>?_) (isort_sort hd) fun x=>?_
  · have h1:=hs i j m[i] m[j] hij (List.getElem?_eq_getElem hi) (List.getElem?_eq_getElem hj)
    have h2:=List.pairwise_iff_getElem.1 hdm i j hi hj hij
    rcases slt_tri m[i].name m[j].name with h | h | h
    · exact h
    · exact absurd h h2
    · rw [h] at h1;cases h1
  · rw [isort_mem];exact hp.mem_iff
theorem rows_v:∀ {rows:List (List PV)},rows.all okV=true→∃ l:List V2,rows=l.map vrow
  | [],_=>⟨[],rfl⟩
  | r :: rows,h=>by
    simp only [List.all_cons,Bool.and_eq_true] at h
    obtain ⟨l,rfl⟩:=rows_v h.2
    have h1:=h.1
    unfold okV at h1
    split at h1
    · rename_i s w
      exact ⟨⟨s,w⟩ :: l,rfl⟩
    · cases h1
theorem dist_of:∀ {l:List V2},aparts ltV (l.map vrow)=true→DistN l
  | [],_=>by simp [DistN]
  | a :: l,h=>by
    simp only [List.map_cons,aparts,Bool.and_eq_true,List.all_map,List.all_eq_true] at h
    refine List.pairwise_cons.2 ⟨fun b hb e=>?_,dist_of h.2⟩
    have:(ltV (vrow a) (vrow b) || ltV (vrow b) (vrow a))=true:=h.1 b hb
    rw [ltV_row,ltV_row,ltN,ltN,e,slt_irrefl] at this
    cases this
end Go.Proofs.YtojhplpninjplaaGreat
namespace Go.AE
theorem set_same {α:Type} {l:List α} {b:Nat} {o:α} (h:l[b]? = some o):l.set b o=l:=by
  apply List.ext_getElem?
  intro k
  by_cases hk:b=k
  · subst hk
    rw [List.getElem?_set_self (List.getElem?_eq_some_iff.1 h).1,h]
  · rw [List.getElem?_set_ne hk]
end Go.AE
namespace Go.Proofs.YtojhplpninjplaaGreat
open Go Go.AE Go.AE.S Go.Proofs
open Go.Shelf Go.RowKit Go.Lib Go.Sort
theorem flat_encV (d:Array V2) (k:Nat) (hk:k<d.size*2):(flatK encV 2 d)[k]! = if k % 2=0 then .string (d[k / 2]!).name else .int .i64 (d[k / 2]!).w:=by
  rw [get_flatK _ _ _ _ hk]
  have h2:k % 2=0∨k % 2=1:=by omega
  rcases h2 with h | h<;>rw [h]<;>simp [encV]
theorem rows_flat {l:List V2} {k:Nat} {a:AV} (h:(rowsAV (l.map vrow)).flatten[k]? = some a):k<l.length*2∧a=if k % 2=0 then .p (.str (l.toArray[k / 2]!).name) else .p (.int .i64 (l.toArray[k / 2]!).w):=by
  have hw:∀ x∈rowsAV (l.map vrow),x.length=2:=by
    intro x hx
    simp only [rowsAV,List.map_map,List.mem_map] at hx
    obtain ⟨v,_,rfl⟩:=hx
    rfl
  have hk:=(List.getElem?_eq_some_iff.1 h).1
  rw [flatten_length hw] at hk
  simp only [rowsAV,List.length_map] at hk
  refine ⟨hk,?_⟩
  obtain ⟨i,j,row,rfl,hi,hj⟩:=flatten_at hw h
  simp only [rowsAV,List.map_map,List.getElem?_map,Option.map_eq_some_iff] at hi
  obtain ⟨v,hv,rfl⟩:=hi
  have hj2:j<2:=(List.getElem?_eq_some_iff.1 hj).1
  have e1:(i*2+j) / 2=i:=by omega
  have e2:l.toArray[i]! = v:=by
    have hil:=(List.getElem?_eq_some_iff.1 hv)
    rw [getElem!_pos _ _ (by simpa using hil.1)]
    simpa using hil.2
  rw [e1,e2]
  have h2:j=0∨j=1:=by omega
  rcases h2 with rfl | rfl
  · have:(i*2+0) % 2=0:=by omega
    rw [this]
    simp [vrow] at hj
    exact hj.symm
  · have:¬ (i*2+1) % 2=0:=by omega
    rw [if_neg this]
    simp [vrow] at hj
    exact hj.symm
theorem cell_holds {V:View} {l:List V2} {c:Array Value} (hc:∀ (k:Nat) (a:AV),(rowsAV (l.map vrow)).flatten[k]? = some a→∃ v,c[k]? = some v∧v.oneCell'=true∧VRel V a v) (k:Nat) (hk:k<l.length*2):c[k]? = some ((flatK encV 2 l.toArray)[k]!):=by
  have hlen:(rowsAV (l.map vrow)).flatten.length=l.length*2:=by
    rw [flatten_length (es:=2) (fun x hx=>by
      simp only [rowsAV,List.map_map,List.mem_map] at hx
      obtain ⟨v,_,rfl⟩:=hx
      rfl)]
    simp [rowsAV]
  have hg:(rowsAV (l.map vrow)).flatten[k]? = some (rowsAV (l.map vrow)).flatten[k]:=List.getElem?_eq_getElem (by omega)
  obtain ⟨_,ha⟩:=rows_flat hg
  obtain ⟨v,h1,_,h2⟩:=hc k _ hg
  rw [h1,flat_encV _ _ (by simpa using hk)]
  rw [ha] at h2
  split at h2
  · rename_i h0
    rw [if_pos h0]
    cases h2 with
    | p h=>cases h;rfl
  · rename_i h0
    rw [if_neg h0]
    cases h2 with
    | p h=>cases h;rfl
theorem sorted_list {l:List V2} {d':Array V2} (hd:DistN l) (hp:PermIn 0 l.toArray.size l.toArray d') (hs:SortedIn (ltOf cfV) 0 l.toArray.size d'):d'=(isort ltN l).toArray:=by
  obtain ⟨h1,_,h3⟩:=hp
  have e1:d'.extract 0 l.toArray.size=d':=by rw [← h1];simp
  have e2:l.toArray.extract 0 l.toArray.size=l.toArray:=by simp
  rw [e1,e2] at h3
  have:d'.toList=isort ltN l:=by
    refine sorted_is hd (by simpa using h3) fun i j a b hij ha hb=>?_
    have hj:=(List.getElem?_eq_some_iff.1 hb).1
    have h:=hs i j (Nat.zero_le _) hij (by rw [← h1];simpa using hj)
    rw [cf_slt] at h
    have ea:d'[i]! = a:=by
      have hil:=List.getElem?_eq_some_iff.1 ha
      rw [getElem!_pos _ _ (by simpa using hil.1)]
      simpa using hil.2
    have eb:d'[j]! = b:=by
      have hil:=List.getElem?_eq_some_iff.1 hb
      rw [getElem!_pos _ _ (by simpa using hil.1)]
      simpa using hil.2
    rw [ea,eb] at h
    exact h
  rw [← this]
set_option maxRecDepth 100000 in
set_option maxHeartbeats 1000000 in
theorem sort_fact {args:List AV} {σ σ':Store} {v:AV} (h:primSort 2 f_program_Names_2 okV ltV args σ=some (v,σ')):CallFact Tryz.prog cq f_slices_SortFunc_api_Var_api_Var args σ v σ':=by
  refine .inr ⟨rfl,fun own ok w us hS hrel=>?_⟩
  unfold primSort at h
  split at h
  rotate_left
  · cases h
  rename_i b n f
  split at h
  rotate_left
  · cases h
  rename_i hf
  subst hf
  split at h
  rotate_left
  · cases h
  rename_i e rows ho
  split at h
  rotate_left
  · cases h
  rename_i hcond
  obtain ⟨hn,hbig,he,hok,hap⟩:=hcond
  simp only [Option.some.injEq,Prod.mk.injEq] at h
  obtain ⟨rfl,rfl⟩:=h
  obtain ⟨l,rfl⟩:=rows_v hok
  have hd:=dist_of hap
  have hnl:l.length=n:=by simpa using hn
  match us,hrel.len with
  | [x,y],_=>
  have hx:=hrel.rel 0 _ x rfl rfl
  have hy:=hrel.rel 1 _ y rfl rfl
  obtain ⟨lc,hl⟩:=hS.own_of ho
  have hvec:VecOk ⟨own,σ,ok,w⟩ lc e (rowsAV (l.map vrow)):=hS.obj b lc _ hl ho
  have hyv:y=.func (.func f_program_Names_2) #[] #[]:=by
    cases hy with
    | p h=>
      cases h with
      | fn _ _ vs hl _=>
        have:vs=[]:=List.length_eq_zero_iff.1 (by simpa using hl.symm)
        subst this
        rfl
  subst hyv
  have hxv:∃ ba,x=.slice ba n lc.cap∧(lc.cap≠0→ba=lc.addr):=by
    cases hx with
    | sl _ _ ba c' sh hs hnn hp=>
      have hs':sh=.vec e n:=by
        have:View.sh ⟨own,σ,ok,w⟩ b=some (.vec e n):=by simp [View.sh,ho,Obj.sh,hnl]
        rw [this] at hs
        exact (Option.some.inj hs).symm
      obtain ⟨q1,rfl⟩:=hp e lc hs' hl
      exact ⟨ba,rfl,q1⟩
  obtain ⟨ba,rfl,hba⟩:=hxv
  show Go.AE.Enters Tryz.prog _ ((callFunc 27 _).run Tryz.prog w)
  rw [enters27]
  have hunit:∀ V:View,VRel V (.p (.tup [])) (.tuple #[]):=fun V=>.p (.tup [] [] rfl (by simp))
  by_cases h0:n=0
  · subst h0
    have hl0:l=[]:=List.length_eq_zero_iff.1 hnl
    subst hl0
    refine callsIn_wide.2 (Calls.mono (AnyF.slices_SortFunc_none sortVar ba lc.cap (.func (.func 28) #[] #[]) w) ?_)
    rintro e' w' ⟨rfl,rfl⟩
    refine ⟨_,rfl,own,ok,?_,hunit _,?_⟩
    · have:σ.set b (.pv e (isort ltV ([].map vrow)) false)=σ:=set_same ho
      rw [this];exact hS
    · have:σ.set b (.pv e (isort ltV ([].map vrow)) false)=σ:=set_same ho
      rw [this];exact Step.refl _
  · have hcap:n≤lc.cap:=by have:=hvec.cap;simpa [rowsAV,hnl] using this
    have hcap0:lc.cap≠0:=by omega
    have he2:e=2:=by
      rcases he with h | h
      · have:=congrArg List.length h;simp at this;subst this;exact absurd hnl.symm h0
      · exact h
    subst he2
    obtain ⟨r,hr⟩:∃ r,lc.blk=some r:=by
      cases hb:lc.blk with
      | none=>exact absurd (hvec.nil hb) hcap0
      | some r=>exact ⟨r,rfl⟩
    obtain ⟨cc,ct,hh,hs,hcc⟩:=hvec.cells r hr
    have haddr:lc.addr=some ⟨r,0,none⟩:=by simp [Loc.addr,hr]
    have:=hba hcap0
    subst this
    rw [haddr]
    have hrl:r<w.heap.size:=(Array.getElem?_eq_some_iff.1 hh).1
    have hcell:=cell_holds hcc
    have hH:HoldsK encV 2 w r 0 l.toArray:=by
      intro j hj
      have hj':j<l.length*2:=by simpa using hj
      refine ⟨?_,?_⟩
      · rw [Nat.zero_add,cell_row hh,hcell j hj']
        rfl
      · have hhh:w.heap[r]? = some (.cells cc ct (0,0)):=hh
        simp [World.frozen?,hhh]
    have hcon:=AnyQ.slices_SortFunc sortVar 2 Tryz.isAgg61 Tryz.sizeOf61 encV (fun _=>rfl) (fun x v hv=>by simp [encV] at hv;rcases hv with rfl | rfl<;>rfl) cfV swoV 28 #[] r 0 lc.cap l.toArray w enters28 (cmpLays28 r 0 l.toArray.size w) hH hrl (by simpa [hnl] using hbig)
    have hsz:l.toArray.size=n:=by simpa using hnl
    rw [hsz] at hcon
    refine callsIn_wide.2 (Calls.mono hcon ?_)
    rintro e' w' ⟨rfl,d',m,os,hp,hso,rfl⟩
    rw [← hsz] at hp hso
    have hd':=sorted_list hd hp hso
    subst hd'
    have hil:(isort ltN l).length=l.length:=by
      have:=hp.1
      simpa using this
    have hpk:∀ q,(sortWorldK encV 2 w r 0 m (isort ltN l).toArray os).heap[q]? = if q<w.heap.size then (w.heap.modify r (onCells (putCells id 0 (flatK encV 2 (isort ltN l).toArray))))[q]? else os[q-w.heap.size]? := by
      intro q
      simp only [sortWorldK,putRowK,grow,putRow,mapBlock,Sort.ahead,Array.getElem?_append,Array.size_modify]
    have key:=hS.turn (l':=lc) (o':=.pv 2 (isort ltV (l.map vrow)) false) (w':=sortWorldK encV 2 w r 0 m (isort ltN l).toArray os) hl ho rfl
      (by
        simp only [Obj.sh,Sh.le,isort_map ltV_row,List.length_map,hil]
        exact .inl ⟨trivial,.inr trivial,trivial⟩)
      rfl (by simp [sortWorldK,grow,putRowK,putRow,mapBlock,Sort.ahead]) (fun q hq hne=>by
        rw [hpk,if_pos hq,Array.getElem?_modify,if_neg (fun e=>hne (by rw [hr,e]))])
      (fun q _ hq=>.inl hq) (fun ee=>by
        have e9:rowsAV (isort ltV (l.map vrow))=rowsAV ((isort ltN l).map vrow):=by rw [isort_map ltV_row]
        show VecOk _ lc 2 (rowsAV (isort ltV (l.map vrow)))
        rw [e9]
        refine ⟨?_,?_,hvec.nil,fun h=>by omega,fun q hq=>?_⟩
        · intro y hy
          simp only [rowsAV,List.map_map,List.mem_map] at hy
          obtain ⟨v,_,rfl⟩:=hy
          rfl
        · simp only [rowsAV,List.length_map,hil,hnl];exact hcap
        · rw [hr,Option.some.injEq] at hq
          subst hq
          have hhh:w.heap[r]? = some (.cells cc ct (0,0)):=hh
          refine ⟨putCells id 0 (flatK encV 2 (isort ltN l).toArray) cc,ct,?_,?_,fun k a ha=>?_⟩
          · rw [hpk,if_pos hrl,Array.getElem?_modify,if_pos rfl,hhh]
            rfl
          · simpa [putCells] using hs
          · obtain ⟨hk,rfl⟩:=rows_flat ha
            have hkc:k<cc.size:=by
              have:n*2≤lc.cap*2:=Nat.mul_le_mul_right _ hcap
              rw [hil,hnl] at hk
              omega
            refine ⟨(flatK encV 2 (isort ltN l).toArray)[k]!,?_,?_,?_⟩
            · simp only [putCells,Array.getElem?_mapIdx,Array.getElem?_eq_getElem hkc,Option.map_some,Nat.zero_le,true_and,Nat.zero_add,size_flatK,Nat.sub_zero,id]
              rw [if_pos (by simpa using hk)]
            · rw [flat_encV _ _ (by simpa using hk)]
              split<;>rfl
            · rw [flat_encV _ _ (by simpa using hk)]
              split
              · exact .p (.str _)
              · exact .p (.int _ _))
    exact ⟨_,rfl,_,_,key.1,hunit _,key.2⟩
end Go.Proofs.YtojhplpninjplaaGreat
