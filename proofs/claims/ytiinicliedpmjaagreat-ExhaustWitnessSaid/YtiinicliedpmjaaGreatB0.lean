import Derived.Test.YtiinicliedpmjaaGreatP0
import Derived.Test.YtiinicliedpmjaaGreatIr
namespace Go.AE.S
open Go Go.AE
set_option linter.unusedSimpArgs false
set_option linter.unusedVariables false
variable {τ:Tm} {σ:Store} {rd:Option Nat}
theorem s_opinfo_known (o:Int):R P f_opinfo_known [.int .i64 o]=some (.bool (decide (1≤o∧o≤26))):=by
  (rw [r_opinfo_known (lbY rfl),F_opinfo_known];simp (disch:=omega) only [eqY,↓gc_len,seval,-List.reduceReplicate,reduceCtorEq,allP])
  by_cases h1:1≤o<;>by_cases h2:o≤26<;>simp (disch:=omega) only [eqY,↓gc_len,seval,-List.reduceReplicate,reduceCtorEq,allP,h1,h2]<;>rfl
theorem s_opinfo_inside (o:Int):R P f_opinfo_inside [.int .i64 o]=some (.bool (decide (0≤o∧o≤64))):=by
  (rw [r_opinfo_inside (lbY rfl),F_opinfo_inside];simp (disch:=omega) only [eqY,↓gc_len,seval,-List.reduceReplicate,reduceCtorEq,allP])
  by_cases h1:0≤o<;>by_cases h2:o≤64<;>simp (disch:=omega) only [eqY,↓gc_len,seval,-List.reduceReplicate,reduceCtorEq,allP,h1,h2]<;>rfl
def arity (o:Int):Int :=
  if o=19 then 3 else if o=1∨o=2∨o=24∨o=25 then 0 else if o=3∨o=4∨o=21∨o=22∨o=23∨o=26 then 1 else if 1≤o∧o≤26 then 2 else -1
theorem op_cases (o:Int):(1≤o∧o≤26)→o=1∨o=2∨o=3∨o=4∨o=5∨o=6∨o=7∨o=8∨o=9∨o=10∨o=11∨o=12∨o=13∨o=14∨o=15∨o=16∨o=17∨o=18∨o=19∨o=20∨o=21∨o=22∨o=23∨o=24∨o=25∨o=26:=by omega
theorem op_none {o:Int} (h:¬ (1≤o∧o≤26)):¬ o=1∧¬ o=2∧¬ o=3∧¬ o=4∧¬ o=5∧¬ o=6∧¬ o=7∧¬ o=8∧¬ o=9∧¬ o=10∧¬ o=11∧¬ o=12∧¬ o=13∧¬ o=14∧¬ o=15∧¬ o=16∧¬ o=17∧¬ o=18∧¬ o=19∧¬ o=20∧¬ o=21∧¬ o=22∧¬ o=23∧¬ o=24∧¬ o=25∧¬ o=26:=by omega
theorem s_opinfo_Arity (o:Int):R P f_opinfo_Arity [.int .i64 o]=some (.int .i64 (arity o)):=by
  by_cases h:1≤o∧o≤26
  · rcases op_cases o h with h | h | h | h | h | h | h | h | h | h | h | h | h | h | h | h | h | h | h | h | h | h | h | h | h | h<;>subst h<;>(rw [r_opinfo_Arity (lbY rfl),F_opinfo_Arity];simp (disch:=omega) only [eqY,↓gc_len,seval,-List.reduceReplicate,reduceCtorEq,allP])<;>rfl
  · have hn:=op_none h
    (rw [r_opinfo_Arity (lbY rfl),F_opinfo_Arity];simp (disch:=omega) only [eqY,↓gc_len,seval,-List.reduceReplicate,reduceCtorEq,allP,hn])
    simp [arity,hn,h]
def okW (w:Int):Bool:=decide (0≤w∧w≤64)
def two (x:Int×Int):PV:=.tup [.int .i64 x.1,.int .i64 x.2]
def leafW (o w v:Int):Int×Int:=if ¬ (0≤w∧w≤64)∨o=2∧0<w∧(2:Int)^w.toNat≤v then (0,3) else (w,0)
theorem shr_zero {v w:Int} (hv:0≤v) (hw:w≤64):(v.fdiv (2^min w.toNat IntKind.u64.bits)=0)↔v<2^w.toNat:=by
  have h1:min w.toNat IntKind.u64.bits=w.toNat:=Nat.min_eq_left (by show w.toNat≤64;omega)
  have hp:(0:Int)<2^w.toNat:=Int.pow_pos (by omega)
  rw [h1,Int.fdiv_eq_ediv_of_nonneg _ (by omega)]
  constructor
  · intro h
    have:=Int.emod_lt_of_pos v hp
    have h2:=Int.mul_ediv_add_emod v (2^w.toNat)
    rw [h] at h2
    omega
  · intro h
    exact Int.ediv_eq_zero_of_lt hv h
theorem s_opinfo_leaf (o w v:Int) (hv:0≤v∧v≤18446744073709551615):R P f_opinfo_leaf [.int .i64 o,.int .i64 w,.int .u64 v]=some (two (leafW o w v)):=by
  (rw [r_opinfo_leaf (lbY rfl),F_opinfo_leaf];simp (disch:=omega) only [eqY,↓gc_len,seval,-List.reduceReplicate,reduceCtorEq,allP,q_opinfo_inside,s_opinfo_inside])
  by_cases h1:0≤w∧w≤64
  · by_cases h2:o=2
    · by_cases h3:0<w
      · have hz:=shr_zero hv.1 h1.2
        by_cases h4:v<2^w.toNat
        · simp (disch:=omega) only [eqY,↓gc_len,seval,-List.reduceReplicate,reduceCtorEq,allP,h1,h2,h3,v_shr,hz,h4]
          simp [leafW,h1,h2,two,Int.not_le.2 h4]
        · simp (disch:=omega) only [eqY,↓gc_len,seval,-List.reduceReplicate,reduceCtorEq,allP,h1,h2,h3,v_shr,hz,h4]
          simp [leafW,h1,h2,h3,two,Int.not_lt.1 h4]
      · simp (disch:=omega) only [eqY,↓gc_len,seval,-List.reduceReplicate,reduceCtorEq,allP,h1,h2,h3]
        simp [leafW,h1,h2,two,h3]
    · simp (disch:=omega) only [eqY,↓gc_len,seval,-List.reduceReplicate,reduceCtorEq,allP,h1,h2]
      simp [leafW,h1,h2,two]
  · simp (disch:=omega) only [eqY,↓gc_len,seval,-List.reduceReplicate,reduceCtorEq,allP,h1]
    simp [leafW,h1,two]
def sizeW (o w v f:Int):Int×Int:=if w<1∨64<w∨f<1∨(o=21∧(f<w∨f-w<v))∨(¬ o=21∧w<f) then (0,3) else (w,0)
theorem conv_diff {f w:Int} (hf:f≤9223372036854775807) (h1:1≤w) (h2:w≤f):IntKind.u64.wrap (IntKind.i64.wrap (f-w))=f-w:=by
  rw [IntWalk.i64_in _ (by omega),IntWalk.u64_in _ (by omega)]
theorem s_opinfo_resized (o w v f:Int) (hf : -9223372036854775808≤f∧f≤9223372036854775807):R P f_opinfo_resized [.int .i64 o,.int .i64 w,.int .u64 v,.int .i64 f]=some (two (sizeW o w v f)):=by
  (rw [r_opinfo_resized (lbY rfl),F_opinfo_resized];simp (disch:=omega) only [eqY,↓gc_len,seval,-List.reduceReplicate,reduceCtorEq,allP])
  by_cases h1:w<1
  · simp (disch:=omega) only [eqY,↓gc_len,seval,-List.reduceReplicate,reduceCtorEq,allP,h1]
    simp [sizeW,h1,two]
  by_cases h2:64<w
  · simp (disch:=omega) only [eqY,↓gc_len,seval,-List.reduceReplicate,reduceCtorEq,allP,h1,h2]
    simp [sizeW,h2,two]
  by_cases h3:f<1
  · simp (disch:=omega) only [eqY,↓gc_len,seval,-List.reduceReplicate,reduceCtorEq,allP,h1,h2,h3]
    simp [sizeW,h3,two]
  by_cases h4:o=21
  · by_cases h5:f<w
    · simp (disch:=omega) only [eqY,↓gc_len,seval,-List.reduceReplicate,reduceCtorEq,allP,h1,h2,h3,h4,h5]
      simp [sizeW,h4,h5,two]
    · have hc:=conv_diff (f:=f) (w:=w) hf.2 (by omega) (by omega)
      by_cases h6:f-w<v
      · simp (disch:=omega) only [eqY,↓gc_len,seval,-List.reduceReplicate,reduceCtorEq,allP,h1,h2,h3,h4,h5,hc,h6]
        simp [sizeW,h4,h6,two]
      · simp (disch:=omega) only [eqY,↓gc_len,seval,-List.reduceReplicate,reduceCtorEq,allP,h1,h2,h3,h4,h5,hc,h6]
        simp [sizeW,h1,h2,h3,h4,h5,h6,two]
  · by_cases h5:w<f
    · simp (disch:=omega) only [eqY,↓gc_len,seval,-List.reduceReplicate,reduceCtorEq,allP,h1,h2,h3,h4,h5]
      simp [sizeW,h4,h5,two]
    · simp (disch:=omega) only [eqY,↓gc_len,seval,-List.reduceReplicate,reduceCtorEq,allP,h1,h2,h3,h4,h5]
      simp [sizeW,h1,h2,h3,h4,h5,two]
theorem s_opinfo_agreed (c:Bool) (r:Int):R P f_opinfo_agreed [.bool c,.int .i64 r]=some (two (if c then (r,0) else (0,3))):=by
  cases c<;>(rw [r_opinfo_agreed (lbY rfl),F_opinfo_agreed];simp (disch:=omega) only [eqY,↓gc_len,seval,-List.reduceReplicate,reduceCtorEq,allP])<;>rfl
def irow (n:Int):List PV:=[.int .i64 n]
def widthW (o w v:Int) (as:List Int):Int×Int :=
  if arity o<0∨¬ (as.length:Int)=arity o then (0,4)
  else if as.all okW=false then (0,3)
  else if arity o=0 then leafW o w v
  else if o=21∨o=22∨o=23 then sizeW o w v (as.getD 0 0)
  else if arity o=1 then (as.getD 0 0,0)
  else if o=20 then if 1≤as.getD 0 0∧1≤as.getD 1 0∧as.getD 0 0+as.getD 1 0≤64 then (as.getD 0 0+as.getD 1 0,0) else (0,3)
  else if o=19 then if as.getD 0 0=1∧as.getD 1 0=as.getD 2 0 then (as.getD 1 0,0) else (0,3)
  else if as.getD 0 0=as.getD 1 0 then (if o=16∨o=17∨o=18 then (1,0) else (as.getD 0 0,0)) else (0,3)
abbrev e_Width (o w v:Int) (as:List Int) (i:Int):List (Nat×AV):=[(0,.p (.int .i64 o)),(1,.p (.int .i64 w)),(2,.p (.int .u64 v)),(3,.p (.lst (as.map irow))),(22,.p (.lst (as.map irow))),(23,.p (.int .i64 as.length)),(24,.p (.int .i64 i))]
theorem map_get {α β:Type} {f:α→β} {l:List α} {i:Nat} {a:α} (h:l[i]? = some a):(l.map f)[i]? = some (f a):=by simp [h]
theorem fold_all (q:Int→Bool):∀ (as:List Int) (i:Nat),foldE (S:=Unit) (T:=Unit) (fun _ _ a=>if q a=true then .inl () else .inr ()) i () as=if as.all q=true then .inl () else .inr ()
  | [],i=>rfl
  | a :: as,i=>by
    cases h:q a<;>simp [foldE,h,fold_all q as]
def ret2 (a b:Nat) (x y:PV) (σ:Store) (r:Ex×St):Prop:=r.1=.ret∧r.2.τ.get a=.p x∧r.2.τ.get b=.p y∧r.2.σ=σ
theorem l_opinfo_Width (o w v:Int) (as:List Int) (hl:as.length≤1000000):if as.all okW=true then
      loopAt P L0_opinfo_Width (e_Width o w v as 0) σ 144 rd=some (.exit 0,⟨upd (tm (e_Width o w v as as.length)) 25 (.p (.bool false)),σ,144,rd⟩)
    else ∃ r,loopAt P L0_opinfo_Width (e_Width o w v as 0) σ 144 rd=some r∧ret2 8 9 (.int .i64 0) (.int .i64 3) σ r:=by
  have h:=loop_foldE (P:=P) (nt:=144) (rd:=rd) (lv:=[0,1,2,3,22,23,24]) (b:=B0_opinfo_Width) (x:=0) (as:=as) (fun i (_:Unit)=>e_Width o w v as i) (fun _=>σ) (fun i _ a=>if okW a=true then .inl () else .inr ())
    (fun _=>⟨upd (tm (e_Width o w v as as.length)) 25 (.p (.bool false)),σ,144,rd⟩) (fun _=>ret2 8 9 (.int .i64 0) (.int .i64 3) σ) (fun _ _=>True)
    (fun i a s ha hi hs=>by
      refine ⟨fun _ _=>trivial,?_⟩
      have hlt:((i:Int)<as.length)=True:=by simpa using hi
      by_cases hc:0≤a∧a≤64
      · simp only [B0_opinfo_Width]
        simp (disch:=omega) only [eqY,↓gc_len,seval,-List.reduceReplicate,reduceCtorEq,allP,hlt,v_iadr (es:=1) (map_get (f:=irow) ha) rfl,irow,q_opinfo_inside,s_opinfo_inside,okW,hc]
      · simp only [B0_opinfo_Width]
        simp (disch:=omega) only [eqY,↓gc_len,seval,-List.reduceReplicate,reduceCtorEq,allP,hlt,v_iadr (es:=1) (map_get (f:=irow) ha) rfl,irow,q_opinfo_inside,s_opinfo_inside,okW,hc,ret2]) (fun s hs=>by
      simp only [B0_opinfo_Width]
      simp (disch:=omega) only [eqY,↓gc_len,seval,-List.reduceReplicate,reduceCtorEq,allP,Int.lt_irrefl]) (fun i s=>rfl) () trivial
  rw [fold_all] at h
  exact (done_if h :)
theorem arity_none {o:Int} (h:¬ (1≤o∧o≤26)):arity o = -1:=by
  have hn:=op_none h
  simp [arity,hn,h]
theorem arity_some {o:Int} (h:1≤o∧o≤26):0≤arity o∧arity o≤3:=by
  rcases op_cases o h with h | h | h | h | h | h | h | h | h | h | h | h | h | h | h | h | h | h | h | h | h | h | h | h | h | h<;>subst h<;>decide
theorem grp0 {o:Int} (h:1≤o∧o≤26) (h0:arity o=0):o=1∨o=2∨o=24∨o=25:=by
  rcases op_cases o h with h' | h' | h' | h' | h' | h' | h' | h' | h' | h' | h' | h' | h' | h' | h' | h' | h' | h' | h' | h' | h' | h' | h' | h' | h' | h'<;>subst h'<;>first | omega | exact absurd h0 (by decide)
theorem grp1 {o:Int} (h:1≤o∧o≤26) (h0:arity o=1):o=3∨o=4∨o=26∨o=21∨o=22∨o=23:=by
  rcases op_cases o h with h' | h' | h' | h' | h' | h' | h' | h' | h' | h' | h' | h' | h' | h' | h' | h' | h' | h' | h' | h' | h' | h' | h' | h' | h' | h'<;>subst h'<;>first | omega | exact absurd h0 (by decide)
theorem grp3 {o:Int} (h:1≤o∧o≤26) (h0:arity o=3):o=19:=by
  rcases op_cases o h with h' | h' | h' | h' | h' | h' | h' | h' | h' | h' | h' | h' | h' | h' | h' | h' | h' | h' | h' | h' | h' | h' | h' | h' | h' | h'<;>subst h'<;>first | omega | exact absurd h0 (by decide)
theorem grp2 {o:Int} (h:1≤o∧o≤26) (h0:arity o=2):¬ o=1∧¬ o=2∧¬ o=24∧¬ o=25∧¬ o=3∧¬ o=4∧¬ o=26∧¬ o=21∧¬ o=22∧¬ o=23∧¬ o=19:=by
  refine ⟨?_,?_,?_,?_,?_,?_,?_,?_,?_,?_,?_⟩<;>(rintro rfl;exact absurd h0 (by decide))
theorem w64_sum {a b:Int} (h:okW a=true) (h':okW b=true):IntKind.i64.wrap (a+b)=a+b:=by
  simp only [okW,decide_eq_true_eq] at h h'
  exact IntWalk.i64_in _ (by omega)
theorem s_opinfo_Width (o w v:Int) (as:List Int) (hl:as.length≤1000000) (hv:0≤v∧v≤18446744073709551615) :
    R P f_opinfo_Width [.int .i64 o,.int .i64 w,.int .u64 v,.lst (as.map irow)]=some (two (widthW o w v as)):=by
  by_cases hk:1≤o∧o≤26
  rotate_left
  · (rw [r_opinfo_Width (lbY rfl),F_opinfo_Width];simp (disch:=omega) only [eqY,↓gc_len,seval,-List.reduceReplicate,reduceCtorEq,allP,q_opinfo_known,s_opinfo_known,hk,q_opinfo_Arity,s_opinfo_Arity])
    simp [widthW,arity_none hk,two]
  by_cases hn:(as.length:Int)=arity o
  rotate_left
  · (rw [r_opinfo_Width (lbY rfl),F_opinfo_Width];simp (disch:=omega) only [eqY,↓gc_len,seval,-List.reduceReplicate,reduceCtorEq,allP,q_opinfo_known,s_opinfo_known,hk,q_opinfo_Arity,s_opinfo_Arity,List.length_map,hn])
    simp [widthW,hn,two]
  have hn':=eq_true hn
  have hL:=l_opinfo_Width (σ:=[]) (rd:=none) o w v as hl
  have har:=arity_some hk
  by_cases ha:as.all okW=true
  rotate_left
  · rw [if_neg ha] at hL
    obtain ⟨⟨e,τ',σ',nt',rd'⟩,h1,h2,h3,h4,h5⟩:=hL
    simp only at h2 h3 h4 h5
    subst h2;subst h5
    (rw [r_opinfo_Width (lbY rfl),F_opinfo_Width];simp (disch:=omega) only [eqY,↓gc_len,seval,-List.reduceReplicate,reduceCtorEq,allP,q_opinfo_known,s_opinfo_known,hk,q_opinfo_Arity,s_opinfo_Arity,List.length_map,hn',k0_opinfo_Width])
    simp (disch:=omega) only [eqY,↓gc_len,seval,-List.reduceReplicate,reduceCtorEq,allP,h1,h3,h4]
    simp [widthW,hn,ha,two,show ¬ arity o<0 by omega]
  rw [if_pos ha] at hL
  have ha0:∀ a:Int,a∈as→okW a=true:=by simpa using ha
  have g:∀ n:Nat,n<as.length→∃ a,as[n]? = some a∧okW a=true:=fun n h=>⟨as[n],List.getElem?_eq_getElem h,ha0 _ (List.getElem_mem h)⟩
  have hspec:¬ arity o<0:=by omega
  by_cases h0:arity o=0
  · rcases grp0 hk h0 with h | h | h | h<;>subst h<;>(rw [r_opinfo_Width (lbY rfl),F_opinfo_Width];simp (disch:=omega) only [eqY,↓gc_len,seval,-List.reduceReplicate,reduceCtorEq,allP,q_opinfo_known,s_opinfo_known,hk,q_opinfo_Arity,s_opinfo_Arity,List.length_map,hn',k0_opinfo_Width,hL,q_opinfo_leaf,s_opinfo_leaf _ _ _ hv,two])<;>simp [widthW,hn,ha,two,h0]
  by_cases h1:arity o=1
  · obtain ⟨a,ga,gb⟩:=g 0 (by omega)
    have ab : -9223372036854775808≤a∧a≤9223372036854775807:=by simp only [okW,decide_eq_true_eq] at gb;omega
    have i0:=v_ia0 (k:=.i64) (σ:=[]) (es:=1) (map_get (f:=irow) ga) rfl
    have gd:as.getD 0 0=a:=by simp [List.getD,ga]
    rcases grp1 hk h1 with h | h | h | h | h | h<;>subst h<;>(rw [r_opinfo_Width (lbY rfl),F_opinfo_Width];simp (disch:=omega) only [eqY,↓gc_len,seval,-List.reduceReplicate,reduceCtorEq,allP,q_opinfo_known,s_opinfo_known,hk,q_opinfo_Arity,s_opinfo_Arity,List.length_map,hn',k0_opinfo_Width,hL,q_opinfo_resized,s_opinfo_resized _ _ _ _ ab,two,i0,irow])<;>simp [widthW,hn,ha,two,h1,ga,gd]
  by_cases h3:arity o=3
  · obtain ⟨a,ga,_⟩:=g 0 (by omega)
    obtain ⟨b,gb,_⟩:=g 1 (by omega)
    obtain ⟨c,gc,_⟩:=g 2 (by omega)
    have i0:=v_ia0 (k:=.i64) (σ:=[]) (es:=1) (map_get (f:=irow) ga) rfl
    have i1:=v_ia1 (k:=.i64) (σ:=[]) (es:=1) (map_get (f:=irow) gb) rfl
    have i2:=v_ia2 (k:=.i64) (σ:=[]) (es:=1) (map_get (f:=irow) gc) rfl
    have da:as.getD 0 0=a:=by simp [List.getD,ga]
    have db:as.getD 1 0=b:=by simp [List.getD,gb]
    have dc:as.getD 2 0=c:=by simp [List.getD,gc]
    have e:=grp3 hk h3
    subst e
    by_cases c1:a=1<;>by_cases c2:b=c<;>(rw [r_opinfo_Width (lbY rfl),F_opinfo_Width];simp (disch:=omega) only [eqY,↓gc_len,seval,-List.reduceReplicate,reduceCtorEq,allP,q_opinfo_known,s_opinfo_known,hk,q_opinfo_Arity,s_opinfo_Arity,List.length_map,hn',k0_opinfo_Width,hL,q_opinfo_agreed,s_opinfo_agreed,two,i0,i1,i2,irow,eq_true c1,eq_true c2,c1,c2])<;>simp [widthW,hn,ha,two,h3,ga,gb,gc,c1,c2]
  have h2:arity o=2:=by omega
  obtain ⟨a,ga,oa⟩:=g 0 (by omega)
  obtain ⟨b,gb,ob⟩:=g 1 (by omega)
  have i0:=v_ia0 (k:=.i64) (σ:=[]) (es:=1) (map_get (f:=irow) ga) rfl
  have i1:=v_ia1 (k:=.i64) (σ:=[]) (es:=1) (map_get (f:=irow) gb) rfl
  have da:as.getD 0 0=a:=by simp [List.getD,ga]
  have db:as.getD 1 0=b:=by simp [List.getD,gb]
  have hg:=grp2 hk h2
  have hs:=w64_sum oa ob
  by_cases h20:o=20
  · subst h20
    by_cases c1:1≤a<;>by_cases c2:1≤b<;>by_cases c3:a+b≤64<;>(rw [r_opinfo_Width (lbY rfl),F_opinfo_Width];simp (disch:=omega) only [eqY,↓gc_len,seval,-List.reduceReplicate,reduceCtorEq,allP,q_opinfo_known,s_opinfo_known,hk,q_opinfo_Arity,s_opinfo_Arity,List.length_map,hn',k0_opinfo_Width,hL,q_opinfo_agreed,s_opinfo_agreed,two,i0,i1,irow,hs,c1,c2,c3])<;>simp [widthW,hn,ha,two,h2,ga,gb,c1,c2,c3]
  by_cases h16:o=16∨o=17∨o=18
  · rcases h16 with h | h | h<;>subst h<;>by_cases c1:a=b<;>(rw [r_opinfo_Width (lbY rfl),F_opinfo_Width];simp (disch:=omega) only [eqY,↓gc_len,seval,-List.reduceReplicate,reduceCtorEq,allP,q_opinfo_known,s_opinfo_known,hk,q_opinfo_Arity,s_opinfo_Arity,List.length_map,hn',k0_opinfo_Width,hL,q_opinfo_agreed,s_opinfo_agreed,two,i0,i1,irow,eq_true c1,c1])<;>simp [widthW,hn,ha,two,h2,ga,gb,c1]
  · have h16':=not_or.1 h16
    have h17':=not_or.1 h16'.2
    by_cases c1:a=b<;>(rw [r_opinfo_Width (lbY rfl),F_opinfo_Width];simp (disch:=omega) only [eqY,↓gc_len,seval,-List.reduceReplicate,reduceCtorEq,allP,q_opinfo_known,s_opinfo_known,hk,q_opinfo_Arity,s_opinfo_Arity,List.length_map,hn',k0_opinfo_Width,hL,q_opinfo_agreed,s_opinfo_agreed,two,i0,i1,irow,eq_true c1,c1,hg,h20,h16'.1,h17'.1,h17'.2])<;>simp [widthW,hn,ha,two,h2,ga,gb,c1,hg,h20,h16]
theorem fold_mem (o:Int):∀ (as:List Int) (i:Nat),foldE (S:=Unit) (T:=Unit) (fun _ _ a=>if a=o then .inr () else .inl ()) i () as=if o∈as then .inr () else .inl ()
  | [],i=>rfl
  | a :: as,i=>by
    by_cases h:a=o
    · simp [foldE,h]
    · have h':¬ o=a:=fun e=>h e.symm
      simp [foldE,h,h',fold_mem o as]
def ret1 (a:Nat) (x:PV) (σ:Store) (r:Ex×St):Prop:=r.1=.ret∧r.2.τ.get a=.p x∧r.2.σ=σ
abbrev e_Is (o:Int) (as:List Int) (i:Int):List (Nat×AV):=[(0,.p (.int .i64 o)),(1,.p (.lst (as.map irow))),(7,.p (.int .i64 as.length)),(8,.p (.int .i64 i))]
theorem l_r04_Is (o:Int) (as:List Int) (hl:as.length≤1000000):if o∈as then
      ∃ r,loopAt P L0_r04_Is (e_Is o as 0) σ 18 rd=some r∧ret1 4 (.bool true) σ r
    else loopAt P L0_r04_Is (e_Is o as 0) σ 18 rd=some (.exit 0,⟨upd (tm (e_Is o as as.length)) 9 (.p (.bool false)),σ,18,rd⟩):=by
  have h:=loop_foldE (P:=P) (nt:=18) (rd:=rd) (lv:=[0,1,7,8]) (b:=B0_r04_Is) (x:=0) (as:=as) (fun i (_:Unit)=>e_Is o as i) (fun _=>σ) (fun i _ a=>if a=o then .inr () else .inl ())
    (fun _=>⟨upd (tm (e_Is o as as.length)) 9 (.p (.bool false)),σ,18,rd⟩) (fun _=>ret1 4 (.bool true) σ) (fun _ _=>True)
    (fun i a s ha hi hs=>by
      refine ⟨fun _ _=>trivial,?_⟩
      have hlt:((i:Int)<as.length)=True:=by simpa using hi
      by_cases hc:a=o<;>simp only [B0_r04_Is]<;>simp (disch:=omega) only [eqY,↓gc_len,seval,-List.reduceReplicate,reduceCtorEq,allP,hlt,v_iadr (es:=1) (map_get (f:=irow) ha) rfl,irow,eq_true hc,hc,ret1]) (fun s hs=>by
      simp only [B0_r04_Is]
      simp (disch:=omega) only [eqY,↓gc_len,seval,-List.reduceReplicate,reduceCtorEq,allP,Int.lt_irrefl]) (fun i s=>rfl) () trivial
  rw [fold_mem] at h
  exact (done_fi h :)
theorem s_r04_Is (o:Int) (as:List Int) (hl:as.length≤1000000):R P f_r04_Is [.int .i64 o,.lst (as.map irow)]=some (.bool (decide (o∈as))):=by
  have h:=l_r04_Is (σ:=[]) (rd:=none) o as hl
  by_cases hc:o∈as
  · rw [if_pos hc] at h
    obtain ⟨⟨e,τ',σ',nt',rd'⟩,h1,h2,h3,h4⟩:=h
    simp only at h2 h3 h4
    subst h2;subst h4
    (rw [r_r04_Is (lbY rfl),F_r04_Is];simp (disch:=omega) only [eqY,↓gc_len,seval,-List.reduceReplicate,reduceCtorEq,allP,List.length_map,k0_r04_Is,h1,h3])
    simp [hc]
  · rw [if_neg hc] at h
    (rw [r_r04_Is (lbY rfl),F_r04_Is];simp (disch:=omega) only [eqY,↓gc_len,seval,-List.reduceReplicate,reduceCtorEq,allP,List.length_map,k0_r04_Is,h])
    simp [hc]
theorem s_r04_Leaf (o:Int):R P f_r04_Leaf [.int .i64 o]=some (.bool (decide (o=1∨o=2∨o=24∨o=25))):=by
  have h:=s_r04_Is o [1,2,24,25] (by decide)
  simp only [List.map_cons,List.map_nil,irow] at h
  (rw [r_r04_Leaf (lbY rfl),F_r04_Leaf];simp (disch:=omega) only [eqY,↓gc_len,seval,-List.reduceReplicate,reduceCtorEq,allP,q_r04_Is,h])
  simp
theorem s_r04_width (o:Int):R P f_r04_width [.int .i64 o]=some (.bool (decide (0≤o∧o≤64))):=by
  (rw [r_r04_width (lbY rfl),F_r04_width];simp (disch:=omega) only [eqY,↓gc_len,seval,-List.reduceReplicate,reduceCtorEq,allP])
  by_cases h1:0≤o<;>by_cases h2:o≤64<;>simp (disch:=omega) only [eqY,↓gc_len,seval,-List.reduceReplicate,reduceCtorEq,allP,h1,h2]<;>rfl
theorem s_r04_Arity (o:Int):R P f_r04_Arity [.int .i64 o]=some (.int .i64 (arity o)):=by
  have h:=s_r04_Is o [3,4,21,22,23,26] (by decide)
  simp only [List.map_cons,List.map_nil,irow] at h
  by_cases hk:1≤o∧o≤26
  · rcases op_cases o hk with h' | h' | h' | h' | h' | h' | h' | h' | h' | h' | h' | h' | h' | h' | h' | h' | h' | h' | h' | h' | h' | h' | h' | h' | h' | h'<;>subst h'<;>(rw [r_r04_Arity (lbY rfl),F_r04_Arity];simp (disch:=omega) only [eqY,↓gc_len,seval,-List.reduceReplicate,reduceCtorEq,allP,q_r04_Is,q_r04_Leaf,s_r04_Leaf,h,List.mem_cons,List.not_mem_nil])<;>rfl
  · by_cases h1:o<1
    · (rw [r_r04_Arity (lbY rfl),F_r04_Arity];simp (disch:=omega) only [eqY,↓gc_len,seval,-List.reduceReplicate,reduceCtorEq,allP,q_r04_Is,q_r04_Leaf,s_r04_Leaf,h,h1])
      simp [arity_none hk]
    · have h2:26<o:=by omega
      (rw [r_r04_Arity (lbY rfl),F_r04_Arity];simp (disch:=omega) only [eqY,↓gc_len,seval,-List.reduceReplicate,reduceCtorEq,allP,q_r04_Is,q_r04_Leaf,s_r04_Leaf,h,h1,h2])
      simp [arity_none hk]
theorem shl_one {w:Int} (h1:0<w) (h2:w<64):IntKind.u64.wrap (1*2^min w.toNat IntKind.u64.bits)=2^w.toNat:=by
  have e:min w.toNat IntKind.u64.bits=w.toNat:=Nat.min_eq_left (by show w.toNat≤64;omega)
  rw [e,Int.one_mul]
  have hp:(0:Int)<2^w.toNat:=Int.pow_pos (by omega)
  have hlt:(2:Int)^w.toNat≤2^63:=by
    have:=Nat.pow_le_pow_right (show 0<2 by omega) (show w.toNat≤63 by omega)
    exact_mod_cast this
  exact IntWalk.u64_in _ ⟨by omega,by omega⟩
theorem u64_id {w:Int} (h:0≤w) (h':w≤18446744073709551615):IntKind.u64.wrap w=w:=IntWalk.u64_in _ ⟨h,h'⟩
theorem s_r04_leaf (o w v:Int) (hv:0≤v∧v≤18446744073709551615):R P f_r04_leaf [.int .i64 o,.int .i64 w,.int .u64 v]=some (two (leafW o w v)):=by
  (rw [r_r04_leaf (lbY rfl),F_r04_leaf];simp (disch:=omega) only [eqY,↓gc_len,seval,-List.reduceReplicate,reduceCtorEq,allP,q_r04_width,s_r04_width])
  by_cases h1:0≤w∧w≤64
  rotate_left
  · simp (disch:=omega) only [eqY,↓gc_len,seval,-List.reduceReplicate,reduceCtorEq,allP,h1]
    simp [leafW,h1,two]
  by_cases h2:o=2
  rotate_left
  · simp (disch:=omega) only [eqY,↓gc_len,seval,-List.reduceReplicate,reduceCtorEq,allP,h1,h2]
    simp [leafW,h1,h2,two]
  by_cases h3:0<w
  rotate_left
  · simp (disch:=omega) only [eqY,↓gc_len,seval,-List.reduceReplicate,reduceCtorEq,allP,h1,h2,h3]
    simp [leafW,h1,h2,two,h3]
  by_cases h4:w<64
  · have hu:=u64_id (w:=w) (by omega) (by omega)
    have hs:=shl_one h3 h4
    by_cases h5:(2:Int)^w.toNat≤v
    · simp (disch:=omega) only [eqY,↓gc_len,seval,-List.reduceReplicate,reduceCtorEq,allP,h1,h2,h3,h4,hu,v_shl,hs,h5]
      simp [leafW,h1,h2,h3,two,h5]
    · simp (disch:=omega) only [eqY,↓gc_len,seval,-List.reduceReplicate,reduceCtorEq,allP,h1,h2,h3,h4,hu,v_shl,hs,h5]
      simp [leafW,h1,h2,h3,two,h5]
  · have e:w=64:=by omega
    subst e
    simp (disch:=omega) only [eqY,↓gc_len,seval,-List.reduceReplicate,reduceCtorEq,allP,h1,h2,h3,h4]
    have:¬ (2:Int)^(64:Int).toNat≤v:=by
      have:(2:Int)^(64:Int).toNat=18446744073709551616:=by decide
      omega
    simp [leafW,h2,two,show ¬ 18446744073709551616≤v by omega]
theorem s_r04_parts (o w v f:Int) (hf : -9223372036854775808≤f∧f≤9223372036854775807):R P f_r04_parts [.int .i64 o,.int .i64 w,.int .u64 v,.int .i64 f]=some (two (sizeW o w v f)):=by
  (rw [r_r04_parts (lbY rfl),F_r04_parts];simp (disch:=omega) only [eqY,↓gc_len,seval,-List.reduceReplicate,reduceCtorEq,allP,q_r04_width,s_r04_width])
  by_cases h0:0≤w∧w≤64
  rotate_left
  · simp (disch:=omega) only [eqY,↓gc_len,seval,-List.reduceReplicate,reduceCtorEq,allP,h0]
    rw [sizeW,if_pos (by omega)];rfl
  by_cases h1:w<1
  · simp (disch:=omega) only [eqY,↓gc_len,seval,-List.reduceReplicate,reduceCtorEq,allP,h0,h1]
    simp [sizeW,h1,two]
  by_cases h3:f<1
  · simp (disch:=omega) only [eqY,↓gc_len,seval,-List.reduceReplicate,reduceCtorEq,allP,h0,h1,h3]
    simp [sizeW,h3,two]
  have h2:¬ 64<w:=by omega
  by_cases h4:o=21
  · by_cases h5:f<w
    · simp (disch:=omega) only [eqY,↓gc_len,seval,-List.reduceReplicate,reduceCtorEq,allP,h0,h1,h3,h4,h5]
      simp [sizeW,h4,h5,two]
    · have hc:=conv_diff (f:=f) (w:=w) hf.2 (by omega) (by omega)
      by_cases h6:f-w<v
      · simp (disch:=omega) only [eqY,↓gc_len,seval,-List.reduceReplicate,reduceCtorEq,allP,h0,h1,h3,h4,h5,hc,h6]
        simp [sizeW,h4,h6,two]
      · simp (disch:=omega) only [eqY,↓gc_len,seval,-List.reduceReplicate,reduceCtorEq,allP,h0,h1,h3,h4,h5,hc,h6]
        simp [sizeW,h1,h2,h3,h4,h5,h6,two]
  · by_cases h5:w<f
    · simp (disch:=omega) only [eqY,↓gc_len,seval,-List.reduceReplicate,reduceCtorEq,allP,h0,h1,h3,h4,h5]
      simp [sizeW,h4,h5,two]
    · simp (disch:=omega) only [eqY,↓gc_len,seval,-List.reduceReplicate,reduceCtorEq,allP,h0,h1,h3,h4,h5]
      simp [sizeW,h1,h2,h3,h4,h5,two]
abbrev e_WidthR (o w v:Int) (as:List Int) (i:Int):List (Nat×AV):=[(0,.p (.int .i64 o)),(1,.p (.int .i64 w)),(2,.p (.int .u64 v)),(3,.p (.lst (as.map irow))),(22,.p (.int .i64 as.length)),(23,.p (.int .i64 i))]
theorem l_r04_Width (o w v:Int) (as:List Int) (hl:as.length≤1000000):if as.all okW=true then
      loopAt P L0_r04_Width (e_WidthR o w v as 0) σ 133 rd=some (.exit 0,⟨upd (tm (e_WidthR o w v as as.length)) 24 (.p (.bool false)),σ,133,rd⟩)
    else ∃ r,loopAt P L0_r04_Width (e_WidthR o w v as 0) σ 133 rd=some r∧ret2 8 9 (.int .i64 0) (.int .i64 3) σ r:=by
  have h:=loop_foldE (P:=P) (nt:=133) (rd:=rd) (lv:=[0,1,2,3,22,23]) (b:=B0_r04_Width) (x:=0) (as:=as) (fun i (_:Unit)=>e_WidthR o w v as i) (fun _=>σ) (fun i _ a=>if okW a=true then .inl () else .inr ())
    (fun _=>⟨upd (tm (e_WidthR o w v as as.length)) 24 (.p (.bool false)),σ,133,rd⟩) (fun _=>ret2 8 9 (.int .i64 0) (.int .i64 3) σ) (fun _ _=>True)
    (fun i a s ha hi hs=>by
      refine ⟨fun _ _=>trivial,?_⟩
      have hlt:((i:Int)<as.length)=True:=by simpa using hi
      by_cases hc:0≤a∧a≤64
      · simp only [B0_r04_Width]
        simp (disch:=omega) only [eqY,↓gc_len,seval,-List.reduceReplicate,reduceCtorEq,allP,hlt,v_iadr (es:=1) (map_get (f:=irow) ha) rfl,irow,q_r04_width,s_r04_width,okW,hc]
      · simp only [B0_r04_Width]
        simp (disch:=omega) only [eqY,↓gc_len,seval,-List.reduceReplicate,reduceCtorEq,allP,hlt,v_iadr (es:=1) (map_get (f:=irow) ha) rfl,irow,q_r04_width,s_r04_width,okW,hc,ret2]) (fun s hs=>by
      simp only [B0_r04_Width]
      simp (disch:=omega) only [eqY,↓gc_len,seval,-List.reduceReplicate,reduceCtorEq,allP,Int.lt_irrefl]) (fun i s=>rfl) () trivial
  rw [fold_all] at h
  exact (done_if h :)
theorem s_r04_Width (o w v:Int) (as:List Int) (hl:as.length≤1000000) (hv:0≤v∧v≤18446744073709551615) :
    R P f_r04_Width [.int .i64 o,.int .i64 w,.int .u64 v,.lst (as.map irow)]=some (two (widthW o w v as)):=by
  by_cases hk:1≤o∧o≤26
  rotate_left
  · (rw [r_r04_Width (lbY rfl),F_r04_Width];simp (disch:=omega) only [eqY,↓gc_len,seval,-List.reduceReplicate,reduceCtorEq,allP,arity_none hk,q_r04_Arity,s_r04_Arity])
    simp [widthW,arity_none hk,two]
  have har:=arity_some hk
  have hneg:¬ arity o<0:=by omega
  by_cases hn:(as.length:Int)=arity o
  rotate_left
  · (rw [r_r04_Width (lbY rfl),F_r04_Width];simp (disch:=omega) only [eqY,↓gc_len,seval,-List.reduceReplicate,reduceCtorEq,allP,q_r04_Arity,s_r04_Arity,hneg,List.length_map,hn])
    simp [widthW,hn,two]
  have hn':=eq_true hn
  have hL:=l_r04_Width (σ:=[]) (rd:=none) o w v as hl
  by_cases ha:as.all okW=true
  rotate_left
  · rw [if_neg ha] at hL
    obtain ⟨⟨e,τ',σ',nt',rd'⟩,h1,h2,h3,h4,h5⟩:=hL
    simp only at h2 h3 h4 h5
    subst h2;subst h5
    (rw [r_r04_Width (lbY rfl),F_r04_Width];simp (disch:=omega) only [eqY,↓gc_len,seval,-List.reduceReplicate,reduceCtorEq,allP,q_r04_Arity,s_r04_Arity,hneg,List.length_map,hn',k0_r04_Width])
    simp (disch:=omega) only [eqY,↓gc_len,seval,-List.reduceReplicate,reduceCtorEq,allP,h1,h3,h4]
    simp [widthW,hn,ha,two,hneg]
  rw [if_pos ha] at hL
  have ha0:∀ a:Int,a∈as→okW a=true:=by simpa using ha
  have g:∀ n:Nat,n<as.length→∃ a,as[n]? = some a∧okW a=true:=fun n h=>⟨as[n],List.getElem?_eq_getElem h,ha0 _ (List.getElem_mem h)⟩
  by_cases h0:arity o=0
  · rcases grp0 hk h0 with h | h | h | h<;>subst h<;>(rw [r_r04_Width (lbY rfl),F_r04_Width];simp (disch:=omega) only [eqY,↓gc_len,seval,-List.reduceReplicate,reduceCtorEq,allP,q_r04_Arity,s_r04_Arity,hneg,List.length_map,hn',k0_r04_Width,hL,q_r04_Leaf,s_r04_Leaf,q_r04_leaf,s_r04_leaf _ _ _ hv,two])<;>simp [widthW,hn,ha,two,h0]
  by_cases h1:arity o=1
  · obtain ⟨a,ga,gb⟩:=g 0 (by omega)
    have ab : -9223372036854775808≤a∧a≤9223372036854775807:=by simp only [okW,decide_eq_true_eq] at gb;omega
    have i0:=v_ia0 (k:=.i64) (σ:=[]) (es:=1) (map_get (f:=irow) ga) rfl
    have l1:=eq_true (show (as.length:Int)=1 by omega)
    rcases grp1 hk h1 with h | h | h | h | h | h<;>subst h<;>(rw [r_r04_Width (lbY rfl),F_r04_Width];simp (disch:=omega) only [eqY,↓gc_len,seval,-List.reduceReplicate,reduceCtorEq,allP,q_r04_Arity,s_r04_Arity,hneg,List.length_map,hn',k0_r04_Width,hL,q_r04_Leaf,s_r04_Leaf,q_r04_parts,s_r04_parts _ _ _ _ ab,two,i0,irow,l1])<;>simp [widthW,hn,ha,two,h1,ga]
  by_cases h3:arity o=3
  · obtain ⟨a,ga,_⟩:=g 0 (by omega)
    obtain ⟨b,gb,_⟩:=g 1 (by omega)
    obtain ⟨c,gc,_⟩:=g 2 (by omega)
    have i0:=v_ia0 (k:=.i64) (σ:=[]) (es:=1) (map_get (f:=irow) ga) rfl
    have i1:=v_ia1 (k:=.i64) (σ:=[]) (es:=1) (map_get (f:=irow) gb) rfl
    have i2:=v_ia2 (k:=.i64) (σ:=[]) (es:=1) (map_get (f:=irow) gc) rfl
    have l1:=eq_false (show ¬ (as.length:Int)=1 by omega)
    have e:=grp3 hk h3
    subst e
    by_cases c1:a=1<;>by_cases c2:b=c<;>(rw [r_r04_Width (lbY rfl),F_r04_Width];simp (disch:=omega) only [eqY,↓gc_len,seval,-List.reduceReplicate,reduceCtorEq,allP,q_r04_Arity,s_r04_Arity,hneg,List.length_map,hn',k0_r04_Width,hL,q_r04_Leaf,s_r04_Leaf,two,i0,i1,i2,irow,l1,eq_true c1,eq_true c2,c1,c2])<;>simp [widthW,hn,ha,two,h3,ga,gb,gc,c1,c2]
  have h2:arity o=2:=by omega
  obtain ⟨a,ga,oa⟩:=g 0 (by omega)
  obtain ⟨b,gb,ob⟩:=g 1 (by omega)
  have i0:=v_ia0 (k:=.i64) (σ:=[]) (es:=1) (map_get (f:=irow) ga) rfl
  have i1:=v_ia1 (k:=.i64) (σ:=[]) (es:=1) (map_get (f:=irow) gb) rfl
  have l1:=eq_false (show ¬ (as.length:Int)=1 by omega)
  have hg:=grp2 hk h2
  have hs:=w64_sum oa ob
  by_cases h20:o=20
  · subst h20
    by_cases c1:a<1
    · (rw [r_r04_Width (lbY rfl),F_r04_Width];simp (disch:=omega) only [eqY,↓gc_len,seval,-List.reduceReplicate,reduceCtorEq,allP,q_r04_Arity,s_r04_Arity,hneg,List.length_map,hn',k0_r04_Width,hL,q_r04_Leaf,s_r04_Leaf,two,i0,i1,irow,hs,l1,c1])
      simp [widthW,hn,ha,two,h2,ga,gb,c1,show ¬ 1≤a by omega]
    by_cases c2:b<1
    · (rw [r_r04_Width (lbY rfl),F_r04_Width];simp (disch:=omega) only [eqY,↓gc_len,seval,-List.reduceReplicate,reduceCtorEq,allP,q_r04_Arity,s_r04_Arity,hneg,List.length_map,hn',k0_r04_Width,hL,q_r04_Leaf,s_r04_Leaf,two,i0,i1,irow,hs,l1,c1,c2])
      simp [widthW,hn,ha,two,h2,ga,gb,c1,show ¬ 1≤b by omega]
    by_cases c3:64<a+b
    · (rw [r_r04_Width (lbY rfl),F_r04_Width];simp (disch:=omega) only [eqY,↓gc_len,seval,-List.reduceReplicate,reduceCtorEq,allP,q_r04_Arity,s_r04_Arity,hneg,List.length_map,hn',k0_r04_Width,hL,q_r04_Leaf,s_r04_Leaf,two,i0,i1,irow,hs,l1,c1,c2,c3])
      simp [widthW,hn,ha,two,h2,ga,gb,show ¬ a+b≤64 by omega]
    · (rw [r_r04_Width (lbY rfl),F_r04_Width];simp (disch:=omega) only [eqY,↓gc_len,seval,-List.reduceReplicate,reduceCtorEq,allP,q_r04_Arity,s_r04_Arity,hneg,List.length_map,hn',k0_r04_Width,hL,q_r04_Leaf,s_r04_Leaf,two,i0,i1,irow,hs,l1,c1,c2,c3])
      simp [widthW,hn,ha,two,h2,ga,gb,show 1≤a by omega,show 1≤b by omega,show a+b≤64 by omega]
  by_cases h16:o=16∨o=17∨o=18
  · rcases h16 with h | h | h<;>subst h<;>by_cases c1:a=b<;>(rw [r_r04_Width (lbY rfl),F_r04_Width];simp (disch:=omega) only [eqY,↓gc_len,seval,-List.reduceReplicate,reduceCtorEq,allP,q_r04_Arity,s_r04_Arity,hneg,List.length_map,hn',k0_r04_Width,hL,q_r04_Leaf,s_r04_Leaf,two,i0,i1,irow,l1,eq_true c1,c1])<;>simp [widthW,hn,ha,two,h2,ga,gb,c1]
  · have h16':=not_or.1 h16
    have h17':=not_or.1 h16'.2
    by_cases c1:a=b<;>(rw [r_r04_Width (lbY rfl),F_r04_Width];simp (disch:=omega) only [eqY,↓gc_len,seval,-List.reduceReplicate,reduceCtorEq,allP,q_r04_Arity,s_r04_Arity,hneg,List.length_map,hn',k0_r04_Width,hL,q_r04_Leaf,s_r04_Leaf,two,i0,i1,irow,l1,eq_true c1,c1,hg,h20,h16'.1,h17'.1,h17'.2])<;>simp [widthW,hn,ha,two,h2,ga,gb,c1,hg,h20,h16]
def U64 (a:Int):Prop:=0≤a∧a≤18446744073709551615
theorem ofInt_u64 {a:Int} (h:U64 a):(BitVec.ofInt IntKind.u64.bits a).toNat=a.toNat:=by
  obtain ⟨h1,h2⟩:=h
  rw [BitVec.toNat_ofInt]
  show (a % 18446744073709551616).toNat=_
  rw [Int.emod_eq_of_lt h1 (by omega)]
theorem nat_u64 {n:Nat} (h:n<2^64):IntKind.u64.wrap (n:Int)=n:=IntWalk.u64_in _ ⟨by omega,by omega⟩
theorem u64_lt {a:Int} (h:U64 a):a.toNat<2^64:=by obtain ⟨h1,h2⟩:=h;omega
theorem u64_nat {n:Nat} (h:n<2^64):U64 (n:Int):=⟨by omega,by omega⟩
theorem u64_and {a b:Int} (ha:U64 a) (hb:U64 b):IntKind.u64.wrap (BitVec.ofInt IntKind.u64.bits a &&& BitVec.ofInt IntKind.u64.bits b).toNat=((a.toNat &&& b.toNat:Nat):Int):=by
  rw [BitVec.toNat_and,ofInt_u64 ha,ofInt_u64 hb]
  exact nat_u64 (Nat.and_lt_two_pow _ (u64_lt hb))
theorem u64_or {a b:Int} (ha:U64 a) (hb:U64 b):IntKind.u64.wrap (BitVec.ofInt IntKind.u64.bits a ||| BitVec.ofInt IntKind.u64.bits b).toNat=((a.toNat ||| b.toNat:Nat):Int):=by
  rw [BitVec.toNat_or,ofInt_u64 ha,ofInt_u64 hb]
  exact nat_u64 (Nat.or_lt_two_pow (u64_lt ha) (u64_lt hb))
theorem u64_xor {a b:Int} (ha:U64 a) (hb:U64 b):IntKind.u64.wrap (BitVec.ofInt IntKind.u64.bits a ^^^ BitVec.ofInt IntKind.u64.bits b).toNat=((a.toNat ^^^ b.toNat:Nat):Int):=by
  rw [BitVec.toNat_xor,ofInt_u64 ha,ofInt_u64 hb]
  exact nat_u64 (Nat.xor_lt_two_pow (u64_lt ha) (u64_lt hb))
theorem fdiv_nat {a:Int} (ha:0≤a) (k:Nat):a.fdiv (2^k)=((a.toNat / 2^k:Nat):Int):=by
  have hp:(0:Int)≤2^k:=Int.le_of_lt (Int.pow_pos (by omega))
  rw [Int.fdiv_eq_ediv_of_nonneg _ hp]
  obtain ⟨n,rfl⟩:=Int.eq_ofNat_of_zero_le ha
  simp
def clampW (w:Int):Int:=min (max w 1) 64
theorem clamp_in (w:Int):1≤clampW w∧clampW w≤64:=by unfold clampW;omega
theorem s_bits_clamp (w:Int):R P f_bits_clamp [.int .i64 w]=some (.int .i64 (clampW w)):=by
  (rw [r_bits_clamp (lbY rfl),F_bits_clamp];simp (disch:=omega) only [eqY,↓gc_len,seval,-List.reduceReplicate,reduceCtorEq,allP])
  rfl
theorem s_r01_W (w:Int):R P f_r01_W [.int .i64 w]=some (.int .i64 (clampW w)):=by
  (rw [r_r01_W (lbY rfl),F_r01_W];simp (disch:=omega) only [eqY,↓gc_len,seval,-List.reduceReplicate,reduceCtorEq,allP])
  rfl
def maskW (w:Int):Nat:=2^(clampW w).toNat-1
theorem mask_lt (w:Int):maskW w<2^64:=by
  have h:=clamp_in w
  have:=Nat.pow_le_pow_right (show 0<2 by omega) (show (clampW w).toNat≤64 by omega)
  have:=Nat.pow_pos (n:=(clampW w).toNat) (show 0<2 by omega)
  unfold maskW
  omega
theorem all_shr {c:Nat} (h:1≤c∧c≤64):18446744073709551615 / 2^(64-c)=2^c-1:=by
  have key:∀ n:Fin 65,18446744073709551615 / 2^(64-n.1)=2^n.1-1:=by decide +kernel
  exact key ⟨c,by omega⟩
theorem s_bits_Mask (w:Int):R P f_bits_Mask [.int .i64 w]=some (.int .u64 (maskW w)):=by
  have h:=clamp_in w
  have hw:IntKind.i64.wrap (64-clampW w)=64-clampW w:=IntWalk.i64_in _ (by omega)
  have hs:arithV .shr (.p (.int .u64 18446744073709551615)) (.p (.int .i64 (64-clampW w)))=some (.p (.int .u64 (maskW w))):=by
    rw [v_shr (by omega),fdiv_nat (by omega),show min (64-clampW w).toNat IntKind.u64.bits=64-(clampW w).toNat by (show min (64-clampW w).toNat 64=_;omega)]
    have:=all_shr (c:=(clampW w).toNat) (by omega)
    unfold maskW
    rw [← this]
    rfl
  (rw [r_bits_Mask (lbY rfl),F_bits_Mask];simp (disch:=omega) only [eqY,↓gc_len,seval,-List.reduceReplicate,reduceCtorEq,allP,q_bits_clamp,s_bits_clamp,hw,hs])
def cutW (w x:Int):Int:=((x.toNat % 2^(clampW w).toNat:Nat):Int)
theorem s_bits_Cut (w x:Int) (hx:U64 x):R P f_bits_Cut [.int .i64 w,.int .u64 x]=some (.int .u64 (cutW w x)):=by
  have hm:U64 (maskW w:Int):=by have:=mask_lt w;unfold U64;omega
  (rw [r_bits_Cut (lbY rfl),F_bits_Cut];simp (disch:=omega) only [eqY,↓gc_len,seval,-List.reduceReplicate,reduceCtorEq,allP,q_bits_Mask,s_bits_Mask,v_and,u64_and hx hm])
  unfold cutW
  rw [show ((maskW w:Int)).toNat=2^(clampW w).toNat-1 from rfl,Nat.and_two_pow_sub_one_eq_mod]
def bitN (x:Nat) (i:Nat):Nat:=x / 2^i % 2
theorem s_r01_Bit (x:Int) (i:Nat) (hi:i<64) (hx:U64 x):R P f_r01_Bit [.int .u64 x,.int .i64 i]=some (.int .u64 (bitN x.toNat i)):=by
  have h1:¬ ((i:Int)<0):=by omega
  have h2:¬ ((63:Int)<i):=by omega
  have hc:IntKind.u64.wrap (i:Int)=i:=IntWalk.u64_in _ (by omega)
  have hd:x.fdiv (2^min (i:Int).toNat IntKind.u64.bits)=((x.toNat / 2^i:Nat):Int):=by
    rw [show min (i:Int).toNat IntKind.u64.bits=i by (show min (i:Int).toNat 64=i);omega]
    exact fdiv_nat hx.1 i
  have hu:U64 ((x.toNat / 2^i:Nat):Int):=u64_nat (Nat.lt_of_le_of_lt (Nat.div_le_self x.toNat (2^i)) (u64_lt hx))
  have h1u:U64 1:=by unfold U64;omega
  (rw [r_r01_Bit (lbY rfl),F_r01_Bit];simp (disch:=omega) only [eqY,↓gc_len,seval,-List.reduceReplicate,reduceCtorEq,allP,h1,h2,hc,v_shr,hd,v_and,u64_and hu h1u])
  simp only [Option.some.injEq,PV.int.injEq,true_and]
  unfold bitN
  rw [show ((x.toNat / 2^i:Nat):Int).toNat=x.toNat / 2^i from rfl,Nat.and_one_is_mod]
theorem mod_bits (x k:Nat):(x % 2^k) ||| (bitN x k*2^k)=x % 2^(k+1):=by
  rw [Nat.mod_pow_succ,Nat.or_comm,Nat.mul_comm,← Nat.two_pow_add_eq_or_of_lt (Nat.mod_lt _ (Nat.pow_pos (by omega)))]
  unfold bitN
  omega
abbrev e_rCut (x c y i:Int):List (Nat×AV):=[(1,.p (.int .u64 x)),(5,.p (.int .u64 y)),(8,.p (.int .i64 c)),(9,.p (.int .i64 i))]
theorem foldE_inv {S α:Type} (f:Nat→S→α→S) (g:Nat→S) (as:List α) (i:Nat) (h:∀ j a,g (j+1)=f j (g j) a):foldE (T:=Empty) (fun i s a=>.inl (f i s a)) i (g i) as=.inl (g (i+as.length)):=by
  induction as generalizing i with
  | nil=>rfl
  | cons a as ih=>
    simp only [foldE]
    rw [← h i a,ih (i+1),List.length_cons]
    congr 2
    omega
theorem l_r01_Cut (x:Int) (c:Nat) (hc:c≤64) (hx:U64 x):loopAt P L0_r01_Cut (e_rCut x c 0 0) σ 22 rd=some (.exit 0,⟨upd (tm (e_rCut x c ((x.toNat % 2^c:Nat):Int) c)) 10 (.p (.bool false)),σ,22,rd⟩):=by
  have h:=loop_fold (P:=P) (nt:=22) (rd:=rd) (lv:=[1,5,8,9]) (b:=B0_r01_Cut) (x:=0) (as:=List.range c) (fun i (s:Nat)=>e_rCut x c s i) (fun _=>σ) (fun i s _=>s ||| (bitN x.toNat i*2^i))
    (fun s=>⟨upd (tm (e_rCut x c s c)) 10 (.p (.bool false)),σ,22,rd⟩) (fun i s=>s=x.toNat % 2^i)
    (fun i a s ha hi hs=>by
      have hi':i<c:=by simpa using hi
      have hlt:((i:Int)<c)=True:=by simpa using hi'
      refine ⟨by rw [hs,mod_bits],?_⟩
      have hb:=s_r01_Bit x i (by omega) hx
      have hcv:IntKind.u64.wrap (i:Int)=i:=IntWalk.u64_in _ (by omega)
      have hbit:bitN x.toNat i<2:=Nat.mod_lt _ (by omega)
      have hp:2^i<2^64:=Nat.pow_lt_pow_right (by omega) (by omega)
      have hsh:bitN x.toNat i*2^i<2^64:=by
        rcases (show bitN x.toNat i=0∨bitN x.toNat i=1 by omega) with e | e<;>rw [e]<;>omega
      have hshl:IntKind.u64.wrap ((bitN x.toNat i:Int)*2^min (i:Int).toNat IntKind.u64.bits)=((bitN x.toNat i*2^i:Nat):Int):=by
        rw [show min (i:Int).toNat IntKind.u64.bits=i by (show min (i:Int).toNat 64=i);omega,← nat_u64 hsh]
        simp
      have hsu:U64 (s:Int):=by
        rw [hs]
        exact u64_nat (Nat.lt_of_le_of_lt (Nat.mod_le x.toNat (2^i)) (u64_lt hx))
      have hou:U64 ((bitN x.toNat i*2^i:Nat):Int):=u64_nat hsh
      have hor:=u64_or hsu hou
      simp only [B0_r01_Cut]
      simp (disch:=omega) only [eqY,↓gc_len,seval,-List.reduceReplicate,reduceCtorEq,allP,hlt,q_r01_Bit,hb,hcv,v_shl,hshl,v_or,hor]
      rfl) (fun s hs=>by
      simp only [B0_r01_Cut]
      simp (disch:=omega) only [eqY,↓gc_len,seval,-List.reduceReplicate,reduceCtorEq,allP,Int.lt_irrefl,List.length_range]) (fun i s=>rfl) 0 (by simp [Nat.mod_one]) (x.toNat % 2^c) (by
      have:=foldE_inv (fun i s _=>s ||| (bitN x.toNat i*2^i)) (fun i=>x.toNat % 2^i) (List.range c) 0 (fun j _=>(mod_bits _ _).symm)
      simpa [Nat.mod_one] using this)
  exact h
theorem s_r01_Cut (w x:Int) (hx:U64 x):R P f_r01_Cut [.int .i64 w,.int .u64 x]=some (.int .u64 (cutW w x)):=by
  have hc:=clamp_in w
  have h:=l_r01_Cut (σ:=[]) (rd:=none) x (clampW w).toNat (by omega) hx
  have e:(((clampW w).toNat:Nat):Int)=clampW w:=by omega
  rw [e] at h
  (rw [r_r01_Cut (lbY rfl),F_r01_Cut];simp (disch:=omega) only [eqY,↓gc_len,seval,-List.reduceReplicate,reduceCtorEq,allP,q_r01_W,s_r01_W,k0_r01_Cut,h])
  rfl
theorem fold_allG {α:Type} (q:α→Bool):∀ (as:List α) (i:Nat),foldE (S:=Unit) (T:=Unit) (fun _ _ a=>if q a=true then .inl () else .inr ()) i () as=if as.all q=true then .inl () else .inr ()
  | [],i=>rfl
  | a :: as,i=>by
    cases h:q a<;>simp [foldE,h,fold_allG q as]
theorem size_list (s:ByteArray):s.data.toList.length=s.size:=by rw [Array.length_toList];rfl
theorem get_bytes (s:ByteArray) (i:Nat):s[i]? = s.data.toList[i]? := by
  by_cases h:i<s.size
  · rw [getElem?_pos s i h,List.getElem?_eq_getElem (by rw [size_list];exact h)]
    rfl
  · rw [getElem?_neg s i h,List.getElem?_eq_none (by rw [size_list];omega)]
theorem v_idx {s:ByteArray} {i:Nat} {b:UInt8} {k:IntKind} (h:s.data.toList[i]? = some b):idxSV (.p (.str s)) (.p (.int k i))=some (.p (.int .u8 b.toNat)):=by
  simp only [idxSV,natOf,Int.natCast_nonneg,if_true,Option.bind_some,Int.toNat_natCast,get_bytes,h,Option.map_some]
theorem v_idx0 {s:ByteArray} {b:UInt8} {k:IntKind} (h:s.data.toList[0]? = some b):idxSV (.p (.str s)) (.p (.int k 0))=some (.p (.int .u8 b.toNat)):=v_idx (i:=0) h
def nameC (c:UInt8):Bool:=decide (97≤c.toNat∧c.toNat≤122∨48≤c.toNat∧c.toNat≤57∨c.toNat=95)
def nameOk (s:ByteArray):Bool:=decide (1≤s.size∧s.size≤16) && decide (97≤(s.data.toList.getD 0 0).toNat∧(s.data.toList.getD 0 0).toNat≤122) && s.data.toList.all nameC
abbrev e_Name (s:ByteArray) (i:Int):List (Nat×AV):=[(0,.p (.str s)),(24,.p (.int .i64 s.size)),(25,.p (.int .i64 i))]
abbrev e_NameR (s:ByteArray) (i:Int):List (Nat×AV):=[(0,.p (.str s)),(3,.p (.int .i64 i))]
theorem l_term_Name (s:ByteArray) (hl:s.size≤16):if s.data.toList.all nameC=true then
      loopAt P L0_term_Name (e_Name s 0) σ 50 rd=some (.exit 0,⟨upd (tm (e_Name s s.size)) 26 (.p (.bool false)),σ,50,rd⟩)
    else ∃ r,loopAt P L0_term_Name (e_Name s 0) σ 50 rd=some r∧ret1 2 (.bool false) σ r:=by
  have h:=loop_foldE (P:=P) (nt:=50) (rd:=rd) (lv:=[0,24,25]) (b:=B0_term_Name) (x:=0) (as:=s.data.toList) (fun i (_:Unit)=>e_Name s i) (fun _=>σ) (fun i _ a=>if nameC a=true then .inl () else .inr ())
    (fun _=>⟨upd (tm (e_Name s s.size)) 26 (.p (.bool false)),σ,50,rd⟩) (fun _=>ret1 2 (.bool false) σ) (fun _ _=>True)
    (fun i a _ ha hi hs=>by
      refine ⟨fun _ _=>trivial,?_⟩
      rw [size_list] at hi
      have hlt:((i:Int)<s.size)=True:=by simpa using hi
      have hix:=v_idx (k:=.i64) ha
      by_cases h1:(a.toNat:Int)<97<;>by_cases h2:(122:Int)<a.toNat<;>by_cases h3:(a.toNat:Int)<48<;>by_cases h4:(57:Int)<a.toNat<;>by_cases h5:(a.toNat:Int)=95
      all_goals first
        | (exfalso;omega)
        | (have hn:nameC a=true:=by unfold nameC;rw [decide_eq_true_eq];omega
           simp only [B0_term_Name]
           simp (disch:=omega) only [eqY,↓gc_len,seval,-List.reduceReplicate,reduceCtorEq,allP,hlt,hix,h1,h2,h3,h4,eq_true h5,hn,ret1]
           done)
        | (have hn:nameC a=false:=by unfold nameC;rw [decide_eq_false_iff_not];omega
           simp only [B0_term_Name]
           simp (disch:=omega) only [eqY,↓gc_len,seval,-List.reduceReplicate,reduceCtorEq,allP,hlt,hix,h1,h2,h3,h4,h5,hn,ret1]
           done)) (fun s' hs=>by
      rw [size_list]
      simp only [B0_term_Name]
      simp (disch:=omega) only [eqY,↓gc_len,seval,-List.reduceReplicate,reduceCtorEq,allP,Int.lt_irrefl]) (fun i s=>rfl) () trivial
  rw [fold_allG] at h
  exact (done_if h :)
theorem s_term_Name (s:ByteArray):R P f_term_Name [.str s]=some (.bool (nameOk s)):=by
  unfold nameOk
  by_cases h1:(s.size:Int)<1
  · (rw [r_term_Name (lbY rfl),F_term_Name];simp (disch:=omega) only [eqY,↓gc_len,seval,-List.reduceReplicate,reduceCtorEq,allP,h1])
    simp [show ¬ 1≤s.size by omega]
  by_cases h2:(16:Int)<s.size
  · (rw [r_term_Name (lbY rfl),F_term_Name];simp (disch:=omega) only [eqY,↓gc_len,seval,-List.reduceReplicate,reduceCtorEq,allP,h1,h2])
    simp [show ¬ s.size≤16 by omega]
  have hlen:=size_list s
  obtain ⟨b,hb⟩:∃ b,s.data.toList[0]? = some b:=⟨_,List.getElem?_eq_getElem (by omega)⟩
  have hix:=v_idx0 (k:=.i64) hb
  by_cases h3:(b.toNat:Int)<97
  · (rw [r_term_Name (lbY rfl),F_term_Name];simp (disch:=omega) only [eqY,↓gc_len,seval,-List.reduceReplicate,reduceCtorEq,allP,h1,h2,hix,h3])
    simp [List.getD,hb,show ¬ 97≤b.toNat by omega]
  by_cases h4:(122:Int)<b.toNat
  · (rw [r_term_Name (lbY rfl),F_term_Name];simp (disch:=omega) only [eqY,↓gc_len,seval,-List.reduceReplicate,reduceCtorEq,allP,h1,h2,hix,h3,h4])
    simp [List.getD,hb,show ¬ b.toNat≤122 by omega]
  have hL:=l_term_Name (σ:=[]) (rd:=none) s (by omega)
  by_cases ha:s.data.toList.all nameC=true
  · rw [if_pos ha] at hL
    (rw [r_term_Name (lbY rfl),F_term_Name];simp (disch:=omega) only [eqY,↓gc_len,seval,-List.reduceReplicate,reduceCtorEq,allP,h1,h2,hix,h3,h4,k0_term_Name,hL])
    rw [ha]
    simp [List.getD,hb,show 97≤b.toNat by omega,show b.toNat≤122 by omega,show 1≤s.size by omega,show s.size≤16 by omega]
  · rw [if_neg ha] at hL
    obtain ⟨⟨e,τ',σ',nt',rd'⟩,h1',h2',h3',h4'⟩:=hL
    simp only at h2' h3' h4'
    subst h2';subst h4'
    (rw [r_term_Name (lbY rfl),F_term_Name];simp (disch:=omega) only [eqY,↓gc_len,seval,-List.reduceReplicate,reduceCtorEq,allP,h1,h2,hix,h3,h4,k0_term_Name,h1',h3'])
    rw [Bool.eq_false_iff.2 ha]
    simp
end Go.AE.S
namespace Go.AE
namespace Term
mutual
def count:Term→Nat
  | .mk _ _ _ _ as=>1+counts as
def counts:List Term→Nat
  | []=>0
  | t :: r=>t.count+counts r
end
mutual
def left:Term→Int→Int
  | .mk _ _ _ _ as,n=>lefts as (n-1)
def lefts:List Term→Int→Int
  | [],n=>n
  | a :: as,n=>if n<0 then -1 else lefts as (a.left n)
end
mutual
def deep:Term→Nat
  | .mk _ _ _ _ as=>deeps as+1
def deeps:List Term→Nat
  | []=>0
  | t :: r=>max t.deep (deeps r)
end
theorem count_eq (t:Term):t.count=1+counts t.args:=by cases t;simp [count,args]
theorem deep_eq (t:Term):t.deep=deeps t.args+1:=by cases t;simp [deep,args]
theorem counts_mem {l:List Term} {a:Term} (h:a∈l):a.count≤counts l:=by
  induction l with
  | nil=>simp at h
  | cons b l ih=>
    simp only [counts]
    rcases List.mem_cons.1 h with rfl | h
    · omega
    · have:=ih h;omega
theorem count_pos (t:Term):1≤t.count:=by rw [count_eq];omega
theorem counts_len (l:List Term):l.length≤counts l:=by
  induction l with
  | nil=>simp
  | cons b l ih=>simp only [counts,List.length_cons];have:=count_pos b;omega
end Term
namespace S
open Go Go.AE
set_option linter.unusedSimpArgs false
set_option linter.unusedVariables false
variable {τ:Tm} {σ:Store} {rd:Option Nat}
inductive TOk:Term→Prop
  | mk (t:Term) (h1 : -9223372036854775808≤t.op∧t.op≤9223372036854775807) (h2 : -9223372036854775808≤t.w∧t.w≤9223372036854775807) (h3:U64 t.v) (h4:t.name.size≤9223372036854775807) (h5:t.args.length≤9223372036854775807) (h:∀ a∈t.args,TOk a):TOk t
theorem TOk.op {t:Term} (h:TOk t) : -9223372036854775808≤t.op∧t.op≤9223372036854775807:=by cases h;assumption
theorem TOk.w {t:Term} (h:TOk t) : -9223372036854775808≤t.w∧t.w≤9223372036854775807:=by cases h;assumption
theorem TOk.v {t:Term} (h:TOk t):U64 t.v:=by cases h;assumption
theorem TOk.name {t:Term} (h:TOk t):t.name.size≤9223372036854775807:=by cases h;assumption
theorem TOk.len {t:Term} (h:TOk t):t.args.length≤9223372036854775807:=by cases h;assumption
theorem TOk.args {t:Term} (h:TOk t) {a:Term} (ha:a∈t.args):TOk a:=by cases h;rename_i h;exact h a ha
end S
namespace Term
end Term
namespace S
open Go Go.AE
set_option linter.unusedSimpArgs false
set_option linter.unusedVariables false
variable {τ:Tm} {σ:Store} {rd:Option Nat}
end S
namespace Term
mutual
def pre:Term→List Term
  | .mk o w v s as=>.mk o w v s as :: pres as
def pres:List Term→List Term
  | []=>[]
  | a :: as=>pre a++pres as
end
mutual
def post:Term→List Term
  | .mk o w v s as=>posts as++[.mk o w v s as]
def posts:List Term→List Term
  | []=>[]
  | a :: as=>post a++posts as
end
theorem pre_eq (t:Term):t.pre=t :: pres t.args:=by cases t;rw [pre];rfl
theorem post_eq (t:Term):t.post=posts t.args++[t]:=by cases t;rw [post];rfl
theorem pres_eq:∀ l:List Term,pres l=l.flatMap pre
  | []=>rfl
  | a :: l=>by rw [pres,pres_eq l];rfl
theorem posts_eq:∀ l:List Term,posts l=l.flatMap post
  | []=>rfl
  | a :: l=>by rw [posts,posts_eq l];rfl
theorem pres_len:∀ l:List Term,(∀ a∈l,a.pre.length=a.count)→(pres l).length=counts l
  | [],_=>rfl
  | a :: l,h=>by rw [pres,counts,List.length_append,h a (by simp),pres_len l fun b hb=>h b (by simp [hb])]
theorem pre_len (t:Term):t.pre.length=t.count:=by
  induction t using ind with
  | h t ih=>rw [pre_eq,count_eq,List.length_cons,pres_len _ ih];omega
theorem posts_len:∀ l:List Term,(∀ a∈l,a.post.length=a.count)→(posts l).length=counts l
  | [],_=>rfl
  | a :: l,h=>by rw [posts,counts,List.length_append,h a (by simp),posts_len l fun b hb=>h b (by simp [hb])]
theorem post_len (t:Term):t.post.length=t.count:=by
  induction t using ind with
  | h t ih=>rw [post_eq,count_eq,List.length_append,posts_len _ ih];simp;omega
end Term
namespace S
open Go Go.AE
set_option linter.unusedSimpArgs false
set_option linter.unusedVariables false
variable {τ:Tm} {σ:Store} {rd:Option Nat}
theorem fold_app {α β:Type} (g:α→List β):∀ (l:List α) (i:Nat) (s:List β),foldE (T:=Empty) (fun _ s a=>.inl (s++g a)) i s l=.inl (s++l.flatMap g)
  | [],i,s=>by simp [foldE]
  | a :: l,i,s=>by simp only [foldE];rw [fold_app g l];simp
abbrev e_Pre (t:Term) (s:List Term) (i:Int):List (Nat×AV):=[(1,.p (.ptr t.row 0)),(3,.sl 0 s.length),(4,.p (.int .i64 i))]
abbrev sT (s:List Term):Store:=[.pv 5 (s.map Term.row) false]
theorem flatMap_take_le {g:Term→List Term} (hg:∀ a,(g a).length=a.count) (l:List Term) (i:Nat):((l.take i).flatMap g).length≤Term.counts l:=by
  induction l generalizing i with
  | nil=>simp [Term.counts]
  | cons a l ih=>
    cases i with
    | zero=>simp
    | succ i=>simp only [List.take_succ_cons,List.flatMap_cons,List.length_append,hg,Term.counts];have:=ih i;omega
theorem take_flatMap {g:Term→List Term} {l:List Term} {i:Nat} {a:Term} (h:l[i]? = some a):(l.take (i+1)).flatMap g=(l.take i).flatMap g++g a:=by
  rw [List.take_add_one,h];simp
theorem fold_snoc {α β:Type} (g:α→β):∀ (l:List α) (i:Nat) (s:List β),foldE (T:=Empty) (fun _ s a=>.inl (s++[g a])) i s l=.inl (s++l.map g)
  | [],i,s=>by simp [foldE]
  | a :: l,i,s=>by simp only [foldE];rw [fold_snoc g l];simp
def esOf {α:Type} (n:Nat) (s:List α):Nat:=if s.isEmpty then 0 else n
theorem esOf_or {α:Type} (n:Nat) (s:List α) {β:Type} (f:α→β):esOf n s=n∨(esOf n s=0∧s.map f=[]):=by cases s<;>simp [esOf]
theorem esOf_snoc {α:Type} (n:Nat) (s:List α) (a:α):esOf n (s++[a])=n:=by simp [esOf]
abbrev sI (s:List Int):Store:=[.pv (esOf 1 s) (s.map irow) false]
end S
end Go.AE
