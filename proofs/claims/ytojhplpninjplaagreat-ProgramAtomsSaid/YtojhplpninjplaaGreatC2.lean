import Derived.Test.YtojhplpninjplaaGreatC1
namespace Go.AE.S
open Go Go.AE
set_option linter.unusedSimpArgs false
set_option linter.unusedVariables false
variable {τ:Tm} {σ:Store} {rd:Option Nat}
theorem fold_find {α:Type} (q:α→Bool):∀ (as:List α) (i:Nat),(∃ n:Nat,foldE (S:=Unit) (T:=Nat) (fun i _ a=>if q a=true then .inr i else .inl ()) i () as=.inr n∧as.any q=true)∨(foldE (S:=Unit) (T:=Nat) (fun i _ a=>if q a=true then .inr i else .inl ()) i () as=.inl ()∧as.any q=false)
  | [],i=>.inr ⟨rfl,rfl⟩
  | a :: as,i=>by
    by_cases h:q a=true
    · exact .inl ⟨i,by simp only [foldE,h,if_true],by simp [h]⟩
    · rcases fold_find q as (i+1) with ⟨n,h1,h2⟩ | ⟨h1,h2⟩
      · exact .inl ⟨n,by simp only [foldE,h];exact h1,by simp [h2]⟩
      · exact .inr ⟨by simp only [foldE,h];exact h1,by simp [h2,h]⟩
def isV (u:Term) (v:V2):Bool:=decide (v.name=u.name)
def addU (s:List V2) (u:Term):List V2:=if u.op=1∧s.any (isV u)=false then s++[⟨u.name,u.w⟩] else s
theorem addU_len {s:List V2} {u:Term}:(addU s u).length≤s.length+1:=by
  unfold addU
  split<;>simp
theorem insR_mem {α:Type} {lt:α→α→Bool} {x y:α}:∀ {l:List α},y∈insR lt x l↔y=x∨y∈l
  | []=>by simp [insR]
  | z :: r=>by
    unfold insR
    split
    · simp only [List.mem_cons,insR_mem (l:=r)]
      constructor
      · rintro (h | h | h)
        · exact .inr (.inl h)
        · exact .inl h
        · exact .inr (.inr h)
      · rintro (h | h | h)
        · exact .inr (.inl h)
        · exact .inl h
        · exact .inr (.inr h)
    · simp
theorem isort_mem {α:Type} {lt:α→α→Bool} {y:α}:∀ {l:List α},y∈isort lt l↔y∈l
  | []=>by simp [isort]
  | x :: r=>by simp only [isort,insR_mem,isort_mem (l:=r),List.mem_cons]
theorem isort_map {α β:Type} {lt:α→α→Bool} {lt':β→β→Bool} {f:α→β} (h:∀ a b,lt' (f a) (f b)=lt a b):∀ l:List α,isort lt' (l.map f)=(isort lt l).map f
  | []=>rfl
  | x :: r=>by
    have ins:∀ l:List α,insR lt' (f x) (l.map f)=(insR lt x l).map f:=by
      intro l
      induction l with
      | nil=>rfl
      | cons y l ih=>
        simp only [List.map_cons,insR,h]
        split<;>simp [ih]
    simp only [List.map_cons,isort,isort_map h r,ins]
def ltN (a b:V2):Bool:=slt a.name b.name
theorem ltV_row (a b:V2):ltV (vrow a) (vrow b)=ltN a b:=rfl
def DistN (l:List V2):Prop:=l.Pairwise fun a b=>a.name≠b.name
theorem aparts_of:∀ {l:List V2},DistN l→aparts ltV (l.map vrow)=true
  | [],_=>rfl
  | a :: l,h=>by
    have h:=List.pairwise_cons.1 h
    simp only [List.map_cons,aparts,aparts_of h.2,Bool.and_true,List.all_map,List.all_eq_true]
    intro b hb
    show (ltV (vrow a) (vrow b) || ltV (vrow b) (vrow a))=true
    rw [ltV_row,ltV_row]
    rcases slt_tri a.name b.name with h1 | h1 | h1
    · simp [ltN,h1]
    · exact absurd h1 (h.1 b hb)
    · simp [ltN,h1]
theorem all_okV (l:List V2):(l.map vrow).all okV=true:=by
  induction l with
  | nil=>rfl
  | cons a l ih=>simp [vrow,okV]
def SortN (l:List V2):Prop:=l.Pairwise fun a b=>ltN a b=true
theorem insR_sort {x:V2}:∀ {l:List V2},SortN l→(∀ y∈l,y.name≠x.name)→SortN (insR ltN x l)
  | [],_,_=>by simp [insR,SortN]
  | z :: r,hs,hn=>by
    have hs':=List.pairwise_cons.1 hs
    unfold insR
    split
    · rename_i hz
      refine List.pairwise_cons.2 ⟨fun y hy=>?_,insR_sort hs'.2 fun y hy=>hn y (by simp [hy])⟩
      rcases insR_mem.1 hy with rfl | hy
      · exact hz
      · exact hs'.1 y hy
    · rename_i hz
      have hx:ltN x z=true:=by
        rcases slt_tri x.name z.name with h1 | h1 | h1
        · exact h1
        · exact absurd h1.symm (hn z (by simp))
        · exact absurd h1 hz
      refine List.pairwise_cons.2 ⟨fun y hy=>?_,hs⟩
      rcases List.mem_cons.1 hy with rfl | hy
      · exact hx
      · exact slt_trans hx (hs'.1 y hy)
theorem isort_sort:∀ {l:List V2},DistN l→SortN (isort ltN l)
  | [],_=>by simp [isort,SortN]
  | x :: r,h=>by
    have h:=List.pairwise_cons.1 h
    exact insR_sort (isort_sort h.2) fun y hy=>fun e=>h.1 y (isort_mem.1 hy) e.symm
theorem sort_uniq:∀ {l m:List V2},SortN l→SortN m→(∀ x,x∈l↔x∈m)→l=m
  | [],[],_,_,_=>rfl
  | [],b :: m,_,_,h=>by have:=(h b).2 (by simp);simp at this
  | a :: l,[],_,_,h=>by have:=(h a).1 (by simp);simp at this
  | a :: l,b :: m,hl,hm,h=>by
    have hl':=List.pairwise_cons.1 hl
    have hm':=List.pairwise_cons.1 hm
    have hab:a=b:=by
      rcases List.mem_cons.1 ((h a).1 (by simp)) with e | e
      · exact e
      · rcases List.mem_cons.1 ((h b).2 (by simp)) with e' | e'
        · exact e'.symm
        · have h1:=hm'.1 a e
          have h2:=hl'.1 b e'
          unfold ltN at h1 h2
          rw [slt_asym h1] at h2
          cases h2
    subst hab
    rw [sort_uniq hl'.2 hm'.2 fun x=>⟨fun hx=>?_,fun hx=>?_⟩]
    · rcases List.mem_cons.1 ((h x).1 (by simp [hx])) with e | e
      · subst e
        exact absurd rfl (slt_ne (hl'.1 x hx))
      · exact e
    · rcases List.mem_cons.1 ((h x).2 (by simp [hx])) with e | e
      · subst e
        exact absurd rfl (slt_ne (hm'.1 x hx))
      · exact e
theorem addU_dist {s:List V2} {u:Term} (h:DistN s):DistN (addU s u):=by
  unfold addU
  split
  · rename_i hc
    refine List.pairwise_append.2 ⟨h,by simp,fun a ha b hb=>?_⟩
    have hb:b=⟨u.name,u.w⟩:=by simpa using hb
    subst hb
    intro e
    have:=List.any_eq_false.1 hc.2 a ha
    exact this (decide_eq_true e)
  · exact h
theorem addUs_dist:∀ {l:List Term} {s:List V2},DistN s→DistN (l.foldl addU s)
  | [],_,h=>h
  | u :: l,s,h=>addUs_dist (l:=l) (addU_dist h)
theorem addUs_len:∀ {l:List Term} {s:List V2},(l.foldl addU s).length≤s.length+l.length
  | [],s=>by simp
  | u :: l,s=>by
    have h1:=addUs_len (l:=l) (s:=addU s u)
    have h2:=addU_len (s:=s) (u:=u)
    simp only [List.foldl_cons,List.length_cons]
    omega
def posN (n:ByteArray):List V2→Nat
  | []=>0
  | a :: r=>if slt a.name n=true then posN n r+1 else 0
def hitN (n:ByteArray) (s:List V2):Bool:=match s[posN n s]? with | some a=>decide (a.name=n) | none=>false
def insU (s:List V2) (u:Term):List V2:=if u.op=1 then if hitN u.name s=true then s else s.take (posN u.name s)++[⟨u.name,u.w⟩]++s.drop (posN u.name s) else s
theorem posN_le (n:ByteArray):∀ s:List V2,posN n s≤s.length
  | []=>Nat.le_refl _
  | a :: r=>by unfold posN;have:=posN_le n r;split<;>simp;omega
theorem insU_eq (s:List V2) (u:Term):insU s u=if u.op=1 then insV s ⟨u.name,u.w⟩ else s:=by
  unfold insU
  by_cases h1:u.op=1
  · rw [if_pos h1,if_pos h1]
    induction s with
    | nil=>rfl
    | cons a r ih=>
      unfold insV
      by_cases h2:a.name=u.name
      · have h3:¬ slt a.name u.name=true:=by rw [h2,slt_irrefl];simp
        have h4:posN u.name (a :: r)=0:=by unfold posN;rw [if_neg h3]
        rw [if_pos h2,if_pos (by unfold hitN;rw [h4];simp [h2])]
      · rw [if_neg h2]
        by_cases h3:slt u.name a.name=true
        · have h4:posN u.name (a :: r)=0:=by unfold posN;rw [if_neg (by rw [slt_asym h3];simp)]
          rw [if_pos h3,if_neg (by unfold hitN;rw [h4];simp [h2]),h4]
          rfl
        · have h5:slt a.name u.name=true:=by
            rcases slt_tri a.name u.name with h | h | h
            · exact h
            · exact absurd h h2
            · exact absurd h h3
          have h4:posN u.name (a :: r)=posN u.name r+1:=by conv=>lhs;unfold posN;rw [if_pos h5]
          have h6:hitN u.name (a :: r)=hitN u.name r:=by unfold hitN;rw [h4];rfl
          rw [if_neg h3,← ih,h6,h4]
          by_cases h7:hitN u.name r=true
          · rw [if_pos h7,if_pos h7]
          · rw [if_neg h7,if_neg h7];rfl
  · rw [if_neg h1,if_neg h1]
theorem insV_iff:∀ {s:List V2} {v x:V2},Sorted s→(x∈insV s v↔x∈s∨(x=v∧∀ a∈s,a.name≠v.name))
  | [],v,x,_=>by simp [insV]
  | a :: r,v,x,hs=>by
    have hs':=List.pairwise_cons.1 hs
    unfold insV
    split
    · rename_i h2
      constructor
      · exact .inl
      · rintro (h | ⟨_,h⟩)
        · exact h
        · exact absurd h2 (h a (by simp))
    · rename_i h2
      split
      · rename_i h3
        have hno:∀ b∈a :: r,b.name≠v.name:=by
          intro b hb e
          rcases List.mem_cons.1 hb with rfl | hb
          · exact h2 e
          · have:=hs'.1 b hb
            rw [e,slt_asym h3] at this
            cases this
        rw [List.mem_cons]
        constructor
        · rintro (h | h)
          · exact .inr ⟨h,hno⟩
          · exact .inl h
        · rintro (h | ⟨h,_⟩)
          · exact .inr h
          · exact .inl h
      · rw [List.mem_cons,List.mem_cons,insV_iff hs'.2]
        constructor
        · rintro (h | h | ⟨h,h'⟩)
          · exact .inl (.inl h)
          · exact .inl (.inr h)
          · refine .inr ⟨h,fun b hb=>?_⟩
            rcases List.mem_cons.1 hb with rfl | hb
            · exact h2
            · exact h' b hb
        · rintro ((h | h) | ⟨h,h'⟩)
          · exact .inl h
          · exact .inr (.inl h)
          · exact .inr (.inr ⟨h,fun b hb=>h' b (by simp [hb])⟩)
theorem addU_iff {s:List V2} {u:Term} {x:V2}:x∈addU s u↔x∈s∨(u.op=1∧x=⟨u.name,u.w⟩∧∀ a∈s,a.name≠u.name):=by
  unfold addU
  have hany:s.any (isV u)=false↔∀ a∈s,a.name≠u.name:=by
    rw [List.any_eq_false]
    constructor
    · intro h a ha e;exact h a ha (decide_eq_true e)
    · intro h a ha e;exact h a ha (of_decide_eq_true e)
  split
  · rename_i h
    simp only [List.mem_append,List.mem_singleton]
    constructor
    · rintro (h' | h')
      · exact .inl h'
      · exact .inr ⟨h.1,h',hany.1 h.2⟩
    · rintro (h' | ⟨_,h',_⟩)
      · exact .inl h'
      · exact .inr h'
  · rename_i h
    constructor
    · exact .inl
    · rintro (h' | ⟨h1,_,h2⟩)
      · exact h'
      · exact absurd ⟨h1,hany.2 h2⟩ h
theorem insU_sorted {s:List V2} {u:Term} (h:Sorted s):Sorted (insU s u):=by
  rw [insU_eq]
  split
  · exact insV_sorted h
  · exact h
theorem insUs_sorted:∀ {l:List Term} {s:List V2},Sorted s→Sorted (l.foldl insU s)
  | [],_,h=>h
  | u :: l,s,h=>insUs_sorted (l:=l) (insU_sorted h)
theorem both_mem:∀ {l:List Term} {s m:List V2},Sorted m→(∀ x,x∈s↔x∈m)→∀ x,x∈l.foldl addU s↔x∈l.foldl insU m
  | [],s,m,_,h=>h
  | u :: l,s,m,hm,h=>by
    refine both_mem (l:=l) (insU_sorted hm) fun x=>?_
    rw [addU_iff,insU_eq]
    by_cases h1:u.op=1
    · rw [if_pos h1,insV_iff hm,h x]
      constructor
      · rintro (h' | ⟨_,h',h2⟩)
        · exact .inl h'
        · exact .inr ⟨h',fun a ha=>h2 a ((h a).2 ha)⟩
      · rintro (h' | ⟨h',h2⟩)
        · exact .inl h'
        · exact .inr ⟨h1,h',fun a ha=>h2 a ((h a).1 ha)⟩
    · rw [if_neg h1,h x]
      constructor
      · rintro (h' | ⟨h',_⟩)
        · exact h'
        · exact absurd h' h1
      · exact .inl
def OutOk (x:AV) (σ:Store) (l:List V2):Prop:=(l=[]∧x=.nils)∨∃ b fr,x=.sl b l.length∧σ[b]? = some (.pv 2 (l.map vrow) fr)
theorem out_len {x:AV} {l:List V2} (h:OutOk x σ l):lenSV σ x=some (.p (.int .i64 l.length)):=by
  rcases h with ⟨rfl,rfl⟩ | ⟨b,fr,rfl,h⟩
  · rfl
  · simp [lenSV,lenS,slen,h,Obj.len]
theorem out_at {x:AV} {l:List V2} (h:OutOk x σ l) {i:Nat} {v:V2} (hi:l[i]? = some v):∃ A,iadrSV σ 2 x (.p (.int .i64 i))=some A∧∃ A',fadrV 0 A=some A'∧loadV σ 1 false A'=some (.p (.str v.name)):=by
  have hl:=(List.getElem?_eq_some_iff.1 hi).1
  rcases h with ⟨rfl,rfl⟩ | ⟨b,fr,rfl,h⟩
  · simp at hl
  · refine ⟨.ptr b l.length i 0,?_,.ptr b l.length i 0,rfl,?_⟩
    · unfold iadrSV
      simp [natOf,svec,h,Obj.dims,hl]
    · simp only [loadV,h,List.length_map,if_true,List.getElem?_map,hi]
      rfl
theorem out_pur {x:AV} {l:List V2} (h:OutOk x σ l) (k:Nat):purify σ (k+1) x=some (.lst (l.map vrow)):=by
  rcases h with ⟨rfl,rfl⟩ | ⟨b,fr,rfl,h⟩
  · rfl
  · simp [purify,h]
theorem out_frz {x:AV} {l:List V2} (h:OutOk x σ l):∃ σ',frzV σ x=some (.p (.lst (l.map vrow)),σ')∧σ'.length=σ.length∧OutOk x σ' l∧∀ c,(∀ b n,x=.sl b n→c≠b)→σ'[c]? = σ[c]? := by
  rcases h with ⟨rfl,rfl⟩ | ⟨b,fr,rfl,h⟩
  · exact ⟨σ,frz_nils,rfl,.inl ⟨rfl,rfl⟩,fun _ _=>rfl⟩
  · have hb:=(List.getElem?_eq_some_iff.1 h).1
    cases l with
    | nil=>exact ⟨σ,frz_sl h (by simp),rfl,.inr ⟨b,fr,rfl,h⟩,fun _ _=>rfl⟩
    | cons a l=>
      refine ⟨σ.set b (.pv 2 ((a :: l).map vrow) true),frz_sl h (by simp),by simp,.inr ⟨b,true,rfl,by rw [List.getElem?_set_self hb]⟩,fun c hc=>?_⟩
      rw [List.getElem?_set_ne (fun e=>hc b _ rfl e.symm)]
theorem out_app {x:AV} {l:List V2} {o:Obj} (h:OutOk x σ l):OutOk x (σ++[o]) l:=by
  rcases h with ⟨rfl,rfl⟩ | ⟨b,fr,rfl,h⟩
  · exact .inl ⟨rfl,rfl⟩
  · exact .inr ⟨b,fr,rfl,by rw [List.getElem?_append_left (List.getElem?_eq_some_iff.1 h).1];exact h⟩
theorem out_lt {x:AV} {l:List V2} (h:OutOk x σ l) {b n:Nat} (hx:x=.sl b n):b<σ.length:=by
  rcases h with ⟨rfl,rfl⟩ | ⟨b',fr,rfl,h⟩
  · cases hx
  · cases hx;exact (List.getElem?_eq_some_iff.1 h).1
theorem wide_v (l:List V2):wide 2 (l.map vrow)=true:=by simp [wide,vrow]
theorem slc_take (l:List V2) (k:Nat) (hk:k≤l.length):slcSV 2 (.p (.lst (l.map vrow))) none (some (.p (.int .i64 k))) none=some (.p (.lst ((l.take k).map vrow))):=by
  unfold slcSV
  simp only [wide_v,if_true]
  simp [bounds,boundAt,natOf,hk,List.map_take]
theorem slc_drop (l:List V2) (k:Nat) (hk:k≤l.length):slcSV 2 (.p (.lst (l.map vrow))) (some (.p (.int .i64 k))) none none=some (.p (.lst ((l.drop k).map vrow))):=by
  unfold slcSV
  simp only [wide_v,if_true]
  simp [bounds,boundAt,natOf,hk,List.map_drop]
  rw [List.take_of_length_le (by simp)]
theorem src_last {es m:Nat} {rows:List (List PV)} {fr:Bool} (hm:rows.length=m):srcOf (σ++[.pv es rows fr]) es (.sl σ.length m)=some (.inl rows):=src_sl (fr:=fr) (e:=es) (by simp) hm (.inl rfl)
theorem fold_sr (n:ByteArray):∀ (l:List V2) (k:Nat),foldE (S:=Unit) (T:=Nat) (fun k _ (v:V2)=>if slt v.name n=true then .inl () else .inr k) k () l=if posN n l<l.length then .inr (k+posN n l) else .inl ()
  | [],k=>rfl
  | a :: l,k=>by
    unfold foldE posN
    by_cases h:slt a.name n=true
    · simp only [h,if_true]
      rw [fold_sr n l (k+1)]
      simp only [List.length_cons,Nat.add_lt_add_iff_right]
      split
      · congr 1;omega
      · rfl
    · simp only [h]
      simp
theorem posN_end {n:ByteArray}:∀ {l:List V2},¬ posN n l<l.length→posN n l=l.length
  | l,h=>by have:=posN_le n l;omega
theorem insU_len {s:List V2} {u:Term}:(insU s u).length≤s.length+1:=by
  rw [insU_eq]
  split
  · exact insV_len _ _
  · omega
theorem insUs_len:∀ {l:List Term} {s:List V2},(l.foldl insU s).length≤s.length+l.length
  | [],s=>by simp
  | u :: l,s=>by
    have h1:=insUs_len (l:=l) (s:=insU s u)
    have h2:=insU_len (s:=s) (u:=u)
    simp only [List.foldl_cons,List.length_cons]
    omega
theorem app_v {b e n:Nat} {rows new:List (List PV)} (h:σ[b]? = some (.pv e rows false)) (hn:rows.length=n) (he:e=2∨(e=0∧rows=[])) (hb:(n+new.length)*24≤140737488355328):∃ σ',appendV σ 2 24 (.sl b n) (some (.inl new))=some (.sl b (n+new.length),σ')∧σ'.length=σ.length∧σ'[b]? = some (.pv 2 (rows++new) false)∧∀ c,c≠b→σ'[c]? = σ[c]? := by
  have hbl:=(List.getElem?_eq_some_iff.1 h).1
  exact ⟨_,v_append h hn he hb,by simp,by rw [List.getElem?_set_self hbl],fun c hc=>by rw [List.getElem?_set_ne (fun e=>hc e.symm)]⟩
end Go.AE.S
