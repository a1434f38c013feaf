import Derived.Test.YtojhplpninjplaaGreatP0
import Derived.Test.YtojhplpninjplaaGreatIr
namespace Go.AE.S
open Go Go.AE
set_option linter.unusedSimpArgs false
set_option linter.unusedVariables false
variable {τ:Tm} {σ:Store} {rd:Option Nat}
theorem s_opinfo_known (o:Int):R P f_opinfo_known [.int .i64 o]=some (.bool (decide (1≤o∧o≤26))):=by
  (rw [r_opinfo_known (lbY rfl),F_opinfo_known];simp (disch:=omega) only [eqY,↓gc_len,seval,-List.reduceReplicate,reduceCtorEq,allP])
  by_cases h1:1≤o<;>by_cases h2:o≤26<;>simp (disch:=omega) only [eqY,↓gc_len,seval,-List.reduceReplicate,reduceCtorEq,allP,h1,h2]<;>rfl
theorem s_opinfo_inside (o:Int):R P f_opinfo_inside [.int .i64 o]=some (.bool (decide (0≤o∧o≤64))):=by
  (rw [r_opinfo_inside (lbY rfl),F_opinfo_inside];simp (disch:=omega) only [eqY,↓gc_len,seval,-List.reduceReplicate,reduceCtorEq,allP])
  by_cases h1:0≤o<;>by_cases h2:o≤64<;>simp (disch:=omega) only [eqY,↓gc_len,seval,-List.reduceReplicate,reduceCtorEq,allP,h1,h2]<;>rfl
def arity (o:Int):Int :=
  if o=19 then 3 else if o=1∨o=2∨o=24∨o=25 then 0 else if o=3∨o=4∨o=21∨o=22∨o=23∨o=26 then 1 else if 1≤o∧o≤26 then 2 else -1
theorem op_cases (o:Int):(1≤o∧o≤26)→o=1∨o=2∨o=3∨o=4∨o=5∨o=6∨o=7∨o=8∨o=9∨o=10∨o=11∨o=12∨o=13∨o=14∨o=15∨o=16∨o=17∨o=18∨o=19∨o=20∨o=21∨o=22∨o=23∨o=24∨o=25∨o=26:=by omega
theorem op_none {o:Int} (h:¬ (1≤o∧o≤26)):¬ o=1∧¬ o=2∧¬ o=3∧¬ o=4∧¬ o=5∧¬ o=6∧¬ o=7∧¬ o=8∧¬ o=9∧¬ o=10∧¬ o=11∧¬ o=12∧¬ o=13∧¬ o=14∧¬ o=15∧¬ o=16∧¬ o=17∧¬ o=18∧¬ o=19∧¬ o=20∧¬ o=21∧¬ o=22∧¬ o=23∧¬ o=24∧¬ o=25∧¬ o=26:=by omega
theorem s_opinfo_Arity (o:Int):R P f_opinfo_Arity [.int .i64 o]=some (.int .i64 (arity o)):=by
  by_cases h:1≤o∧o≤26
  · rcases op_cases o h with h | h | h | h | h | h | h | h | h | h | h | h | h | h | h | h | h | h | h | h | h | h | h | h | h | h<;>subst h<;>(rw [r_opinfo_Arity (lbY rfl),F_opinfo_Arity];simp (disch:=omega) only [eqY,↓gc_len,seval,-List.reduceReplicate,reduceCtorEq,allP])<;>rfl
  · have hn:=op_none h
    (rw [r_opinfo_Arity (lbY rfl),F_opinfo_Arity];simp (disch:=omega) only [eqY,↓gc_len,seval,-List.reduceReplicate,reduceCtorEq,allP,hn])
    simp [arity,hn,h]
def okW (w:Int):Bool:=decide (0≤w∧w≤64)
def two (x:Int×Int):PV:=.tup [.int .i64 x.1,.int .i64 x.2]
def leafW (o w v:Int):Int×Int:=if ¬ (0≤w∧w≤64)∨o=2∧0<w∧(2:Int)^w.toNat≤v then (0,3) else (w,0)
theorem shr_zero {v w:Int} (hv:0≤v) (hw:w≤64):(v.fdiv (2^min w.toNat IntKind.u64.bits)=0)↔v<2^w.toNat:=by
  have h1:min w.toNat IntKind.u64.bits=w.toNat:=Nat.min_eq_left (by show w.toNat≤64;omega)
  have hp:(0:Int)<2^w.toNat:=Int.pow_pos (by omega)
  rw [h1,Int.fdiv_eq_ediv_of_nonneg _ (by omega)]
  constructor
  · intro h
    have:=Int.emod_lt_of_pos v hp
    have h2:=Int.mul_ediv_add_emod v (2^w.toNat)
    rw [h] at h2
    omega
  · intro h
    exact Int.ediv_eq_zero_of_lt hv h
theorem s_opinfo_leaf (o w v:Int) (hv:0≤v∧v≤18446744073709551615):R P f_opinfo_leaf [.int .i64 o,.int .i64 w,.int .u64 v]=some (two (leafW o w v)):=by
  (rw [r_opinfo_leaf (lbY rfl),F_opinfo_leaf];simp (disch:=omega) only [eqY,↓gc_len,seval,-List.reduceReplicate,reduceCtorEq,allP,q_opinfo_inside,s_opinfo_inside])
  by_cases h1:0≤w∧w≤64
  · by_cases h2:o=2
    · by_cases h3:0<w
      · have hz:=shr_zero hv.1 h1.2
        by_cases h4:v<2^w.toNat
        · simp (disch:=omega) only [eqY,↓gc_len,seval,-List.reduceReplicate,reduceCtorEq,allP,h1,h2,h3,v_shr,hz,h4]
          simp [leafW,h1,h2,two,Int.not_le.2 h4]
        · simp (disch:=omega) only [eqY,↓gc_len,seval,-List.reduceReplicate,reduceCtorEq,allP,h1,h2,h3,v_shr,hz,h4]
          simp [leafW,h1,h2,h3,two,Int.not_lt.1 h4]
      · simp (disch:=omega) only [eqY,↓gc_len,seval,-List.reduceReplicate,reduceCtorEq,allP,h1,h2,h3]
        simp [leafW,h1,h2,two,h3]
    · simp (disch:=omega) only [eqY,↓gc_len,seval,-List.reduceReplicate,reduceCtorEq,allP,h1,h2]
      simp [leafW,h1,h2,two]
  · simp (disch:=omega) only [eqY,↓gc_len,seval,-List.reduceReplicate,reduceCtorEq,allP,h1]
    simp [leafW,h1,two]
def sizeW (o w v f:Int):Int×Int:=if w<1∨64<w∨f<1∨(o=21∧(f<w∨f-w<v))∨(¬ o=21∧w<f) then (0,3) else (w,0)
theorem conv_diff {f w:Int} (hf:f≤9223372036854775807) (h1:1≤w) (h2:w≤f):IntKind.u64.wrap (IntKind.i64.wrap (f-w))=f-w:=by
  rw [IntWalk.i64_in _ (by omega),IntWalk.u64_in _ (by omega)]
theorem s_opinfo_resized (o w v f:Int) (hf : -9223372036854775808≤f∧f≤9223372036854775807):R P f_opinfo_resized [.int .i64 o,.int .i64 w,.int .u64 v,.int .i64 f]=some (two (sizeW o w v f)):=by
  (rw [r_opinfo_resized (lbY rfl),F_opinfo_resized];simp (disch:=omega) only [eqY,↓gc_len,seval,-List.reduceReplicate,reduceCtorEq,allP])
  by_cases h1:w<1
  · simp (disch:=omega) only [eqY,↓gc_len,seval,-List.reduceReplicate,reduceCtorEq,allP,h1]
    simp [sizeW,h1,two]
  by_cases h2:64<w
  · simp (disch:=omega) only [eqY,↓gc_len,seval,-List.reduceReplicate,reduceCtorEq,allP,h1,h2]
    simp [sizeW,h2,two]
  by_cases h3:f<1
  · simp (disch:=omega) only [eqY,↓gc_len,seval,-List.reduceReplicate,reduceCtorEq,allP,h1,h2,h3]
    simp [sizeW,h3,two]
  by_cases h4:o=21
  · by_cases h5:f<w
    · simp (disch:=omega) only [eqY,↓gc_len,seval,-List.reduceReplicate,reduceCtorEq,allP,h1,h2,h3,h4,h5]
      simp [sizeW,h4,h5,two]
    · have hc:=conv_diff (f:=f) (w:=w) hf.2 (by omega) (by omega)
      by_cases h6:f-w<v
      · simp (disch:=omega) only [eqY,↓gc_len,seval,-List.reduceReplicate,reduceCtorEq,allP,h1,h2,h3,h4,h5,hc,h6]
        simp [sizeW,h4,h6,two]
      · simp (disch:=omega) only [eqY,↓gc_len,seval,-List.reduceReplicate,reduceCtorEq,allP,h1,h2,h3,h4,h5,hc,h6]
        simp [sizeW,h1,h2,h3,h4,h5,h6,two]
  · by_cases h5:w<f
    · simp (disch:=omega) only [eqY,↓gc_len,seval,-List.reduceReplicate,reduceCtorEq,allP,h1,h2,h3,h4,h5]
      simp [sizeW,h4,h5,two]
    · simp (disch:=omega) only [eqY,↓gc_len,seval,-List.reduceReplicate,reduceCtorEq,allP,h1,h2,h3,h4,h5]
      simp [sizeW,h1,h2,h3,h4,h5,two]
theorem s_opinfo_agreed (c:Bool) (r:Int):R P f_opinfo_agreed [.bool c,.int .i64 r]=some (two (if c then (r,0) else (0,3))):=by
  cases c<;>(rw [r_opinfo_agreed (lbY rfl),F_opinfo_agreed];simp (disch:=omega) only [eqY,↓gc_len,seval,-List.reduceReplicate,reduceCtorEq,allP])<;>rfl
def irow (n:Int):List PV:=[.int .i64 n]
def widthW (o w v:Int) (as:List Int):Int×Int :=
  if arity o<0∨¬ (as.length:Int)=arity o then (0,4)
  else if as.all okW=false then (0,3)
  else if arity o=0 then leafW o w v
  else if o=21∨o=22∨o=23 then sizeW o w v (as.getD 0 0)
  else if arity o=1 then (as.getD 0 0,0)
  else if o=20 then if 1≤as.getD 0 0∧1≤as.getD 1 0∧as.getD 0 0+as.getD 1 0≤64 then (as.getD 0 0+as.getD 1 0,0) else (0,3)
  else if o=19 then if as.getD 0 0=1∧as.getD 1 0=as.getD 2 0 then (as.getD 1 0,0) else (0,3)
  else if as.getD 0 0=as.getD 1 0 then (if o=16∨o=17∨o=18 then (1,0) else (as.getD 0 0,0)) else (0,3)
abbrev e_Width (o w v:Int) (as:List Int) (i:Int):List (Nat×AV):=[(0,.p (.int .i64 o)),(1,.p (.int .i64 w)),(2,.p (.int .u64 v)),(3,.p (.lst (as.map irow))),(22,.p (.lst (as.map irow))),(23,.p (.int .i64 as.length)),(24,.p (.int .i64 i))]
theorem map_get {α β:Type} {f:α→β} {l:List α} {i:Nat} {a:α} (h:l[i]? = some a):(l.map f)[i]? = some (f a):=by simp [h]
theorem fold_all (q:Int→Bool):∀ (as:List Int) (i:Nat),foldE (S:=Unit) (T:=Unit) (fun _ _ a=>if q a=true then .inl () else .inr ()) i () as=if as.all q=true then .inl () else .inr ()
  | [],i=>rfl
  | a :: as,i=>by
    cases h:q a<;>simp [foldE,h,fold_all q as]
def ret2 (a b:Nat) (x y:PV) (σ:Store) (r:Ex×St):Prop:=r.1=.ret∧r.2.τ.get a=.p x∧r.2.τ.get b=.p y∧r.2.σ=σ
theorem l_opinfo_Width (o w v:Int) (as:List Int) (hl:as.length≤1000000):if as.all okW=true then
      loopAt P L0_opinfo_Width (e_Width o w v as 0) σ 144 rd=some (.exit 0,⟨upd (tm (e_Width o w v as as.length)) 25 (.p (.bool false)),σ,144,rd⟩)
    else ∃ r,loopAt P L0_opinfo_Width (e_Width o w v as 0) σ 144 rd=some r∧ret2 8 9 (.int .i64 0) (.int .i64 3) σ r:=by
  have h:=loop_foldE (P:=P) (nt:=144) (rd:=rd) (lv:=[0,1,2,3,22,23,24]) (b:=B0_opinfo_Width) (x:=0) (as:=as) (fun i (_:Unit)=>e_Width o w v as i) (fun _=>σ) (fun i _ a=>if okW a=true then .inl () else .inr ())
    (fun _=>⟨upd (tm (e_Width o w v as as.length)) 25 (.p (.bool false)),σ,144,rd⟩) (fun _=>ret2 8 9 (.int .i64 0) (.int .i64 3) σ) (fun _ _=>True)
    (fun i a s ha hi hs=>by
      refine ⟨fun _ _=>trivial,?_⟩
      have hlt:((i:Int)<as.length)=True:=by simpa using hi
      by_cases hc:0≤a∧a≤64
      · simp only [B0_opinfo_Width]
        simp (disch:=omega) only [eqY,↓gc_len,seval,-List.reduceReplicate,reduceCtorEq,allP,hlt,v_iadr (es:=1) (map_get (f:=irow) ha) rfl,irow,q_opinfo_inside,s_opinfo_inside,okW,hc]
      · simp only [B0_opinfo_Width]
        simp (disch:=omega) only [eqY,↓gc_len,seval,-List.reduceReplicate,reduceCtorEq,allP,hlt,v_iadr (es:=1) (map_get (f:=irow) ha) rfl,irow,q_opinfo_inside,s_opinfo_inside,okW,hc,ret2]) (fun s hs=>by
      simp only [B0_opinfo_Width]
      simp (disch:=omega) only [eqY,↓gc_len,seval,-List.reduceReplicate,reduceCtorEq,allP,Int.lt_irrefl]) (fun i s=>rfl) () trivial
  rw [fold_all] at h
  exact (done_if h :)
theorem arity_none {o:Int} (h:¬ (1≤o∧o≤26)):arity o = -1:=by
  have hn:=op_none h
  simp [arity,hn,h]
theorem arity_some {o:Int} (h:1≤o∧o≤26):0≤arity o∧arity o≤3:=by
  rcases op_cases o h with h | h | h | h | h | h | h | h | h | h | h | h | h | h | h | h | h | h | h | h | h | h | h | h | h | h<;>subst h<;>decide
theorem grp0 {o:Int} (h:1≤o∧o≤26) (h0:arity o=0):o=1∨o=2∨o=24∨o=25:=by
  rcases op_cases o h with h' | h' | h' | h' | h' | h' | h' | h' | h' | h' | h' | h' | h' | h' | h' | h' | h' | h' | h' | h' | h' | h' | h' | h' | h' | h'<;>subst h'<;>first | omega | exact absurd h0 (by decide)
theorem grp1 {o:Int} (h:1≤o∧o≤26) (h0:arity o=1):o=3∨o=4∨o=26∨o=21∨o=22∨o=23:=by
  rcases op_cases o h with h' | h' | h' | h' | h' | h' | h' | h' | h' | h' | h' | h' | h' | h' | h' | h' | h' | h' | h' | h' | h' | h' | h' | h' | h' | h'<;>subst h'<;>first | omega | exact absurd h0 (by decide)
theorem grp3 {o:Int} (h:1≤o∧o≤26) (h0:arity o=3):o=19:=by
  rcases op_cases o h with h' | h' | h' | h' | h' | h' | h' | h' | h' | h' | h' | h' | h' | h' | h' | h' | h' | h' | h' | h' | h' | h' | h' | h' | h' | h'<;>subst h'<;>first | omega | exact absurd h0 (by decide)
theorem grp2 {o:Int} (h:1≤o∧o≤26) (h0:arity o=2):¬ o=1∧¬ o=2∧¬ o=24∧¬ o=25∧¬ o=3∧¬ o=4∧¬ o=26∧¬ o=21∧¬ o=22∧¬ o=23∧¬ o=19:=by
  refine ⟨?_,?_,?_,?_,?_,?_,?_,?_,?_,?_,?_⟩<;>(rintro rfl;exact absurd h0 (by decide))
theorem w64_sum {a b:Int} (h:okW a=true) (h':okW b=true):IntKind.i64.wrap (a+b)=a+b:=by
  simp only [okW,decide_eq_true_eq] at h h'
  exact IntWalk.i64_in _ (by omega)
theorem s_opinfo_Width (o w v:Int) (as:List Int) (hl:as.length≤1000000) (hv:0≤v∧v≤18446744073709551615) :
    R P f_opinfo_Width [.int .i64 o,.int .i64 w,.int .u64 v,.lst (as.map irow)]=some (two (widthW o w v as)):=by
  by_cases hk:1≤o∧o≤26
  rotate_left
  · (rw [r_opinfo_Width (lbY rfl),F_opinfo_Width];simp (disch:=omega) only [eqY,↓gc_len,seval,-List.reduceReplicate,reduceCtorEq,allP,q_opinfo_known,s_opinfo_known,hk,q_opinfo_Arity,s_opinfo_Arity])
    simp [widthW,arity_none hk,two]
  by_cases hn:(as.length:Int)=arity o
  rotate_left
  · (rw [r_opinfo_Width (lbY rfl),F_opinfo_Width];simp (disch:=omega) only [eqY,↓gc_len,seval,-List.reduceReplicate,reduceCtorEq,allP,q_opinfo_known,s_opinfo_known,hk,q_opinfo_Arity,s_opinfo_Arity,List.length_map,hn])
    simp [widthW,hn,two]
  have hn':=eq_true hn
  have hL:=l_opinfo_Width (σ:=[]) (rd:=none) o w v as hl
  have har:=arity_some hk
  by_cases ha:as.all okW=true
  rotate_left
  · rw [if_neg ha] at hL
    obtain ⟨⟨e,τ',σ',nt',rd'⟩,h1,h2,h3,h4,h5⟩:=hL
    simp only at h2 h3 h4 h5
    subst h2;subst h5
    (rw [r_opinfo_Width (lbY rfl),F_opinfo_Width];simp (disch:=omega) only [eqY,↓gc_len,seval,-List.reduceReplicate,reduceCtorEq,allP,q_opinfo_known,s_opinfo_known,hk,q_opinfo_Arity,s_opinfo_Arity,List.length_map,hn',k0_opinfo_Width])
    simp (disch:=omega) only [eqY,↓gc_len,seval,-List.reduceReplicate,reduceCtorEq,allP,h1,h3,h4]
    simp [widthW,hn,ha,two,show ¬ arity o<0 by omega]
  rw [if_pos ha] at hL
  have ha0:∀ a:Int,a∈as→okW a=true:=by simpa using ha
  have g:∀ n:Nat,n<as.length→∃ a,as[n]? = some a∧okW a=true:=fun n h=>⟨as[n],List.getElem?_eq_getElem h,ha0 _ (List.getElem_mem h)⟩
  have hspec:¬ arity o<0:=by omega
  by_cases h0:arity o=0
  · rcases grp0 hk h0 with h | h | h | h<;>subst h<;>(rw [r_opinfo_Width (lbY rfl),F_opinfo_Width];simp (disch:=omega) only [eqY,↓gc_len,seval,-List.reduceReplicate,reduceCtorEq,allP,q_opinfo_known,s_opinfo_known,hk,q_opinfo_Arity,s_opinfo_Arity,List.length_map,hn',k0_opinfo_Width,hL,q_opinfo_leaf,s_opinfo_leaf _ _ _ hv,two])<;>simp [widthW,hn,ha,two,h0]
  by_cases h1:arity o=1
  · obtain ⟨a,ga,gb⟩:=g 0 (by omega)
    have ab : -9223372036854775808≤a∧a≤9223372036854775807:=by simp only [okW,decide_eq_true_eq] at gb;omega
    have i0:=v_ia0 (k:=.i64) (σ:=[]) (es:=1) (map_get (f:=irow) ga) rfl
    have gd:as.getD 0 0=a:=by simp [List.getD,ga]
    rcases grp1 hk h1 with h | h | h | h | h | h<;>subst h<;>(rw [r_opinfo_Width (lbY rfl),F_opinfo_Width];simp (disch:=omega) only [eqY,↓gc_len,seval,-List.reduceReplicate,reduceCtorEq,allP,q_opinfo_known,s_opinfo_known,hk,q_opinfo_Arity,s_opinfo_Arity,List.length_map,hn',k0_opinfo_Width,hL,q_opinfo_resized,s_opinfo_resized _ _ _ _ ab,two,i0,irow])<;>simp [widthW,hn,ha,two,h1,ga,gd]
  by_cases h3:arity o=3
  · obtain ⟨a,ga,_⟩:=g 0 (by omega)
    obtain ⟨b,gb,_⟩:=g 1 (by omega)
    obtain ⟨c,gc,_⟩:=g 2 (by omega)
    have i0:=v_ia0 (k:=.i64) (σ:=[]) (es:=1) (map_get (f:=irow) ga) rfl
    have i1:=v_ia1 (k:=.i64) (σ:=[]) (es:=1) (map_get (f:=irow) gb) rfl
    have i2:=v_ia2 (k:=.i64) (σ:=[]) (es:=1) (map_get (f:=irow) gc) rfl
    have da:as.getD 0 0=a:=by simp [List.getD,ga]
    have db:as.getD 1 0=b:=by simp [List.getD,gb]
    have dc:as.getD 2 0=c:=by simp [List.getD,gc]
    have e:=grp3 hk h3
    subst e
    by_cases c1:a=1<;>by_cases c2:b=c<;>(rw [r_opinfo_Width (lbY rfl),F_opinfo_Width];simp (disch:=omega) only [eqY,↓gc_len,seval,-List.reduceReplicate,reduceCtorEq,allP,q_opinfo_known,s_opinfo_known,hk,q_opinfo_Arity,s_opinfo_Arity,List.length_map,hn',k0_opinfo_Width,hL,q_opinfo_agreed,s_opinfo_agreed,two,i0,i1,i2,irow,eq_true c1,eq_true c2,c1,c2])<;>simp [widthW,hn,ha,two,h3,ga,gb,gc,c1,c2]
  have h2:arity o=2:=by omega
  obtain ⟨a,ga,oa⟩:=g 0 (by omega)
  obtain ⟨b,gb,ob⟩:=g 1 (by omega)
  have i0:=v_ia0 (k:=.i64) (σ:=[]) (es:=1) (map_get (f:=irow) ga) rfl
  have i1:=v_ia1 (k:=.i64) (σ:=[]) (es:=1) (map_get (f:=irow) gb) rfl
  have da:as.getD 0 0=a:=by simp [List.getD,ga]
  have db:as.getD 1 0=b:=by simp [List.getD,gb]
  have hg:=grp2 hk h2
  have hs:=w64_sum oa ob
  by_cases h20:o=20
  · subst h20
    by_cases c1:1≤a<;>by_cases c2:1≤b<;>by_cases c3:a+b≤64<;>(rw [r_opinfo_Width (lbY rfl),F_opinfo_Width];simp (disch:=omega) only [eqY,↓gc_len,seval,-List.reduceReplicate,reduceCtorEq,allP,q_opinfo_known,s_opinfo_known,hk,q_opinfo_Arity,s_opinfo_Arity,List.length_map,hn',k0_opinfo_Width,hL,q_opinfo_agreed,s_opinfo_agreed,two,i0,i1,irow,hs,c1,c2,c3])<;>simp [widthW,hn,ha,two,h2,ga,gb,c1,c2,c3]
  by_cases h16:o=16∨o=17∨o=18
  · rcases h16 with h | h | h<;>subst h<;>by_cases c1:a=b<;>(rw [r_opinfo_Width (lbY rfl),F_opinfo_Width];simp (disch:=omega) only [eqY,↓gc_len,seval,-List.reduceReplicate,reduceCtorEq,allP,q_opinfo_known,s_opinfo_known,hk,q_opinfo_Arity,s_opinfo_Arity,List.length_map,hn',k0_opinfo_Width,hL,q_opinfo_agreed,s_opinfo_agreed,two,i0,i1,irow,eq_true c1,c1])<;>simp [widthW,hn,ha,two,h2,ga,gb,c1]
  · have h16':=not_or.1 h16
    have h17':=not_or.1 h16'.2
    by_cases c1:a=b<;>(rw [r_opinfo_Width (lbY rfl),F_opinfo_Width];simp (disch:=omega) only [eqY,↓gc_len,seval,-List.reduceReplicate,reduceCtorEq,allP,q_opinfo_known,s_opinfo_known,hk,q_opinfo_Arity,s_opinfo_Arity,List.length_map,hn',k0_opinfo_Width,hL,q_opinfo_agreed,s_opinfo_agreed,two,i0,i1,irow,eq_true c1,c1,hg,h20,h16'.1,h17'.1,h17'.2])<;>simp [widthW,hn,ha,two,h2,ga,gb,c1,hg,h20,h16]
theorem fold_mem (o:Int):∀ (as:List Int) (i:Nat),foldE (S:=Unit) (T:=Unit) (fun _ _ a=>if a=o then .inr () else .inl ()) i () as=if o∈as then .inr () else .inl ()
  | [],i=>rfl
  | a :: as,i=>by
    by_cases h:a=o
    · simp [foldE,h]
    · have h':¬ o=a:=fun e=>h e.symm
      simp [foldE,h,h',fold_mem o as]
def ret1 (a:Nat) (x:PV) (σ:Store) (r:Ex×St):Prop:=r.1=.ret∧r.2.τ.get a=.p x∧r.2.σ=σ
abbrev e_Is (o:Int) (as:List Int) (i:Int):List (Nat×AV):=[(0,.p (.int .i64 o)),(1,.p (.lst (as.map irow))),(7,.p (.int .i64 as.length)),(8,.p (.int .i64 i))]
theorem l_r04_Is (o:Int) (as:List Int) (hl:as.length≤1000000):if o∈as then
      ∃ r,loopAt P L0_r04_Is (e_Is o as 0) σ 18 rd=some r∧ret1 4 (.bool true) σ r
    else loopAt P L0_r04_Is (e_Is o as 0) σ 18 rd=some (.exit 0,⟨upd (tm (e_Is o as as.length)) 9 (.p (.bool false)),σ,18,rd⟩):=by
  have h:=loop_foldE (P:=P) (nt:=18) (rd:=rd) (lv:=[0,1,7,8]) (b:=B0_r04_Is) (x:=0) (as:=as) (fun i (_:Unit)=>e_Is o as i) (fun _=>σ) (fun i _ a=>if a=o then .inr () else .inl ())
    (fun _=>⟨upd (tm (e_Is o as as.length)) 9 (.p (.bool false)),σ,18,rd⟩) (fun _=>ret1 4 (.bool true) σ) (fun _ _=>True)
    (fun i a s ha hi hs=>by
      refine ⟨fun _ _=>trivial,?_⟩
      have hlt:((i:Int)<as.length)=True:=by simpa using hi
      by_cases hc:a=o<;>simp only [B0_r04_Is]<;>simp (disch:=omega) only [eqY,↓gc_len,seval,-List.reduceReplicate,reduceCtorEq,allP,hlt,v_iadr (es:=1) (map_get (f:=irow) ha) rfl,irow,eq_true hc,hc,ret1]) (fun s hs=>by
      simp only [B0_r04_Is]
      simp (disch:=omega) only [eqY,↓gc_len,seval,-List.reduceReplicate,reduceCtorEq,allP,Int.lt_irrefl]) (fun i s=>rfl) () trivial
  rw [fold_mem] at h
  exact (done_fi h :)
theorem s_r04_Is (o:Int) (as:List Int) (hl:as.length≤1000000):R P f_r04_Is [.int .i64 o,.lst (as.map irow)]=some (.bool (decide (o∈as))):=by
  have h:=l_r04_Is (σ:=[]) (rd:=none) o as hl
  by_cases hc:o∈as
  · rw [if_pos hc] at h
    obtain ⟨⟨e,τ',σ',nt',rd'⟩,h1,h2,h3,h4⟩:=h
    simp only at h2 h3 h4
    subst h2;subst h4
    (rw [r_r04_Is (lbY rfl),F_r04_Is];simp (disch:=omega) only [eqY,↓gc_len,seval,-List.reduceReplicate,reduceCtorEq,allP,List.length_map,k0_r04_Is,h1,h3])
    simp [hc]
  · rw [if_neg hc] at h
    (rw [r_r04_Is (lbY rfl),F_r04_Is];simp (disch:=omega) only [eqY,↓gc_len,seval,-List.reduceReplicate,reduceCtorEq,allP,List.length_map,k0_r04_Is,h])
    simp [hc]
theorem s_r04_Leaf (o:Int):R P f_r04_Leaf [.int .i64 o]=some (.bool (decide (o=1∨o=2∨o=24∨o=25))):=by
  have h:=s_r04_Is o [1,2,24,25] (by decide)
  simp only [List.map_cons,List.map_nil,irow] at h
  (rw [r_r04_Leaf (lbY rfl),F_r04_Leaf];simp (disch:=omega) only [eqY,↓gc_len,seval,-List.reduceReplicate,reduceCtorEq,allP,q_r04_Is,h])
  simp
theorem s_r04_width (o:Int):R P f_r04_width [.int .i64 o]=some (.bool (decide (0≤o∧o≤64))):=by
  (rw [r_r04_width (lbY rfl),F_r04_width];simp (disch:=omega) only [eqY,↓gc_len,seval,-List.reduceReplicate,reduceCtorEq,allP])
  by_cases h1:0≤o<;>by_cases h2:o≤64<;>simp (disch:=omega) only [eqY,↓gc_len,seval,-List.reduceReplicate,reduceCtorEq,allP,h1,h2]<;>rfl
theorem s_r04_Arity (o:Int):R P f_r04_Arity [.int .i64 o]=some (.int .i64 (arity o)):=by
  have h:=s_r04_Is o [3,4,21,22,23,26] (by decide)
  simp only [List.map_cons,List.map_nil,irow] at h
  by_cases hk:1≤o∧o≤26
  · rcases op_cases o hk with h' | h' | h' | h' | h' | h' | h' | h' | h' | h' | h' | h' | h' | h' | h' | h' | h' | h' | h' | h' | h' | h' | h' | h' | h' | h'<;>subst h'<;>(rw [r_r04_Arity (lbY rfl),F_r04_Arity];simp (disch:=omega) only [eqY,↓gc_len,seval,-List.reduceReplicate,reduceCtorEq,allP,q_r04_Is,q_r04_Leaf,s_r04_Leaf,h,List.mem_cons,List.not_mem_nil])<;>rfl
  · by_cases h1:o<1
    · (rw [r_r04_Arity (lbY rfl),F_r04_Arity];simp (disch:=omega) only [eqY,↓gc_len,seval,-List.reduceReplicate,reduceCtorEq,allP,q_r04_Is,q_r04_Leaf,s_r04_Leaf,h,h1])
      simp [arity_none hk]
    · have h2:26<o:=by omega
      (rw [r_r04_Arity (lbY rfl),F_r04_Arity];simp (disch:=omega) only [eqY,↓gc_len,seval,-List.reduceReplicate,reduceCtorEq,allP,q_r04_Is,q_r04_Leaf,s_r04_Leaf,h,h1,h2])
      simp [arity_none hk]
theorem shl_one {w:Int} (h1:0<w) (h2:w<64):IntKind.u64.wrap (1*2^min w.toNat IntKind.u64.bits)=2^w.toNat:=by
  have e:min w.toNat IntKind.u64.bits=w.toNat:=Nat.min_eq_left (by show w.toNat≤64;omega)
  rw [e,Int.one_mul]
  have hp:(0:Int)<2^w.toNat:=Int.pow_pos (by omega)
  have hlt:(2:Int)^w.toNat≤2^63:=by
    have:=Nat.pow_le_pow_right (show 0<2 by omega) (show w.toNat≤63 by omega)
    exact_mod_cast this
  exact IntWalk.u64_in _ ⟨by omega,by omega⟩
theorem u64_id {w:Int} (h:0≤w) (h':w≤18446744073709551615):IntKind.u64.wrap w=w:=IntWalk.u64_in _ ⟨h,h'⟩
theorem s_r04_leaf (o w v:Int) (hv:0≤v∧v≤18446744073709551615):R P f_r04_leaf [.int .i64 o,.int .i64 w,.int .u64 v]=some (two (leafW o w v)):=by
  (rw [r_r04_leaf (lbY rfl),F_r04_leaf];simp (disch:=omega) only [eqY,↓gc_len,seval,-List.reduceReplicate,reduceCtorEq,allP,q_r04_width,s_r04_width])
  by_cases h1:0≤w∧w≤64
  rotate_left
  · simp (disch:=omega) only [eqY,↓gc_len,seval,-List.reduceReplicate,reduceCtorEq,allP,h1]
    simp [leafW,h1,two]
  by_cases h2:o=2
  rotate_left
  · simp (disch:=omega) only [eqY,↓gc_len,seval,-List.reduceReplicate,reduceCtorEq,allP,h1,h2]
    simp [leafW,h1,h2,two]
  by_cases h3:0<w
  rotate_left
  · simp (disch:=omega) only [eqY,↓gc_len,seval,-List.reduceReplicate,reduceCtorEq,allP,h1,h2,h3]
    simp [leafW,h1,h2,two,h3]
  by_cases h4:w<64
  · have hu:=u64_id (w:=w) (by omega) (by omega)
    have hs:=shl_one h3 h4
    by_cases h5:(2:Int)^w.toNat≤v
    · simp (disch:=omega) only [eqY,↓gc_len,seval,-List.reduceReplicate,reduceCtorEq,allP,h1,h2,h3,h4,hu,v_shl,hs,h5]
      simp [leafW,h1,h2,h3,two,h5]
    · simp (disch:=omega) only [eqY,↓gc_len,seval,-List.reduceReplicate,reduceCtorEq,allP,h1,h2,h3,h4,hu,v_shl,hs,h5]
      simp [leafW,h1,h2,h3,two,h5]
  · have e:w=64:=by omega
    subst e
    simp (disch:=omega) only [eqY,↓gc_len,seval,-List.reduceReplicate,reduceCtorEq,allP,h1,h2,h3,h4]
    have:¬ (2:Int)^(64:Int).toNat≤v:=by
      have:(2:Int)^(64:Int).toNat=18446744073709551616:=by decide
      omega
    simp [leafW,h2,two,show ¬ 18446744073709551616≤v by omega]
theorem s_r04_parts (o w v f:Int) (hf : -9223372036854775808≤f∧f≤9223372036854775807):R P f_r04_parts [.int .i64 o,.int .i64 w,.int .u64 v,.int .i64 f]=some (two (sizeW o w v f)):=by
  (rw [r_r04_parts (lbY rfl),F_r04_parts];simp (disch:=omega) only [eqY,↓gc_len,seval,-List.reduceReplicate,reduceCtorEq,allP,q_r04_width,s_r04_width])
  by_cases h0:0≤w∧w≤64
  rotate_left
  · simp (disch:=omega) only [eqY,↓gc_len,seval,-List.reduceReplicate,reduceCtorEq,allP,h0]
    rw [sizeW,if_pos (by omega)];rfl
  by_cases h1:w<1
  · simp (disch:=omega) only [eqY,↓gc_len,seval,-List.reduceReplicate,reduceCtorEq,allP,h0,h1]
    simp [sizeW,h1,two]
  by_cases h3:f<1
  · simp (disch:=omega) only [eqY,↓gc_len,seval,-List.reduceReplicate,reduceCtorEq,allP,h0,h1,h3]
    simp [sizeW,h3,two]
  have h2:¬ 64<w:=by omega
  by_cases h4:o=21
  · by_cases h5:f<w
    · simp (disch:=omega) only [eqY,↓gc_len,seval,-List.reduceReplicate,reduceCtorEq,allP,h0,h1,h3,h4,h5]
      simp [sizeW,h4,h5,two]
    · have hc:=conv_diff (f:=f) (w:=w) hf.2 (by omega) (by omega)
      by_cases h6:f-w<v
      · simp (disch:=omega) only [eqY,↓gc_len,seval,-List.reduceReplicate,reduceCtorEq,allP,h0,h1,h3,h4,h5,hc,h6]
        simp [sizeW,h4,h6,two]
      · simp (disch:=omega) only [eqY,↓gc_len,seval,-List.reduceReplicate,reduceCtorEq,allP,h0,h1,h3,h4,h5,hc,h6]
        simp [sizeW,h1,h2,h3,h4,h5,h6,two]
  · by_cases h5:w<f
    · simp (disch:=omega) only [eqY,↓gc_len,seval,-List.reduceReplicate,reduceCtorEq,allP,h0,h1,h3,h4,h5]
      simp [sizeW,h4,h5,two]
    · simp (disch:=omega) only [eqY,↓gc_len,seval,-List.reduceReplicate,reduceCtorEq,allP,h0,h1,h3,h4,h5]
      simp [sizeW,h1,h2,h3,h4,h5,two]
abbrev e_WidthR (o w v:Int) (as:List Int) (i:Int):List (Nat×AV):=[(0,.p (.int .i64 o)),(1,.p (.int .i64 w)),(2,.p (.int .u64 v)),(3,.p (.lst (as.map irow))),(22,.p (.int .i64 as.length)),(23,.p (.int .i64 i))]
theorem l_r04_Width (o w v:Int) (as:List Int) (hl:as.length≤1000000):if as.all okW=true then
      loopAt P L0_r04_Width (e_WidthR o w v as 0) σ 133 rd=some (.exit 0,⟨upd (tm (e_WidthR o w v as as.length)) 24 (.p (.bool false)),σ,133,rd⟩)
    else ∃ r,loopAt P L0_r04_Width (e_WidthR o w v as 0) σ 133 rd=some r∧ret2 8 9 (.int .i64 0) (.int .i64 3) σ r:=by
  have h:=loop_foldE (P:=P) (nt:=133) (rd:=rd) (lv:=[0,1,2,3,22,23]) (b:=B0_r04_Width) (x:=0) (as:=as) (fun i (_:Unit)=>e_WidthR o w v as i) (fun _=>σ) (fun i _ a=>if okW a=true then .inl () else .inr ())
    (fun _=>⟨upd (tm (e_WidthR o w v as as.length)) 24 (.p (.bool false)),σ,133,rd⟩) (fun _=>ret2 8 9 (.int .i64 0) (.int .i64 3) σ) (fun _ _=>True)
    (fun i a s ha hi hs=>by
      refine ⟨fun _ _=>trivial,?_⟩
      have hlt:((i:Int)<as.length)=True:=by simpa using hi
      by_cases hc:0≤a∧a≤64
      · simp only [B0_r04_Width]
        simp (disch:=omega) only [eqY,↓gc_len,seval,-List.reduceReplicate,reduceCtorEq,allP,hlt,v_iadr (es:=1) (map_get (f:=irow) ha) rfl,irow,q_r04_width,s_r04_width,okW,hc]
      · simp only [B0_r04_Width]
        simp (disch:=omega) only [eqY,↓gc_len,seval,-List.reduceReplicate,reduceCtorEq,allP,hlt,v_iadr (es:=1) (map_get (f:=irow) ha) rfl,irow,q_r04_width,s_r04_width,okW,hc,ret2]) (fun s hs=>by
      simp only [B0_r04_Width]
      simp (disch:=omega) only [eqY,↓gc_len,seval,-List.reduceReplicate,reduceCtorEq,allP,Int.lt_irrefl]) (fun i s=>rfl) () trivial
  rw [fold_all] at h
  exact (done_if h :)
theorem s_r04_Width (o w v:Int) (as:List Int) (hl:as.length≤1000000) (hv:0≤v∧v≤18446744073709551615) :
    R P f_r04_Width [.int .i64 o,.int .i64 w,.int .u64 v,.lst (as.map irow)]=some (two (widthW o w v as)):=by
  by_cases hk:1≤o∧o≤26
  rotate_left
  · (rw [r_r04_Width (lbY rfl),F_r04_Width];simp (disch:=omega) only [eqY,↓gc_len,seval,-List.reduceReplicate,reduceCtorEq,allP,arity_none hk,q_r04_Arity,s_r04_Arity])
    simp [widthW,arity_none hk,two]
  have har:=arity_some hk
  have hneg:¬ arity o<0:=by omega
  by_cases hn:(as.length:Int)=arity o
  rotate_left
  · (rw [r_r04_Width (lbY rfl),F_r04_Width];simp (disch:=omega) only [eqY,↓gc_len,seval,-List.reduceReplicate,reduceCtorEq,allP,q_r04_Arity,s_r04_Arity,hneg,List.length_map,hn])
    simp [widthW,hn,two]
  have hn':=eq_true hn
  have hL:=l_r04_Width (σ:=[]) (rd:=none) o w v as hl
  by_cases ha:as.all okW=true
  rotate_left
  · rw [if_neg ha] at hL
    obtain ⟨⟨e,τ',σ',nt',rd'⟩,h1,h2,h3,h4,h5⟩:=hL
    simp only at h2 h3 h4 h5
    subst h2;subst h5
    (rw [r_r04_Width (lbY rfl),F_r04_Width];simp (disch:=omega) only [eqY,↓gc_len,seval,-List.reduceReplicate,reduceCtorEq,allP,q_r04_Arity,s_r04_Arity,hneg,List.length_map,hn',k0_r04_Width])
    simp (disch:=omega) only [eqY,↓gc_len,seval,-List.reduceReplicate,reduceCtorEq,allP,h1,h3,h4]
    simp [widthW,hn,ha,two,hneg]
  rw [if_pos ha] at hL
  have ha0:∀ a:Int,a∈as→okW a=true:=by simpa using ha
  have g:∀ n:Nat,n<as.length→∃ a,as[n]? = some a∧okW a=true:=fun n h=>⟨as[n],List.getElem?_eq_getElem h,ha0 _ (List.getElem_mem h)⟩
  by_cases h0:arity o=0
  · rcases grp0 hk h0 with h | h | h | h<;>subst h<;>(rw [r_r04_Width (lbY rfl),F_r04_Width];simp (disch:=omega) only [eqY,↓gc_len,seval,-List.reduceReplicate,reduceCtorEq,allP,q_r04_Arity,s_r04_Arity,hneg,List.length_map,hn',k0_r04_Width,hL,q_r04_Leaf,s_r04_Leaf,q_r04_leaf,s_r04_leaf _ _ _ hv,two])<;>simp [widthW,hn,ha,two,h0]
  by_cases h1:arity o=1
  · obtain ⟨a,ga,gb⟩:=g 0 (by omega)
    have ab : -9223372036854775808≤a∧a≤9223372036854775807:=by simp only [okW,decide_eq_true_eq] at gb;omega
    have i0:=v_ia0 (k:=.i64) (σ:=[]) (es:=1) (map_get (f:=irow) ga) rfl
    have l1:=eq_true (show (as.length:Int)=1 by omega)
    rcases grp1 hk h1 with h | h | h | h | h | h<;>subst h<;>(rw [r_r04_Width (lbY rfl),F_r04_Width];simp (disch:=omega) only [eqY,↓gc_len,seval,-List.reduceReplicate,reduceCtorEq,allP,q_r04_Arity,s_r04_Arity,hneg,List.length_map,hn',k0_r04_Width,hL,q_r04_Leaf,s_r04_Leaf,q_r04_parts,s_r04_parts _ _ _ _ ab,two,i0,irow,l1])<;>simp [widthW,hn,ha,two,h1,ga]
  by_cases h3:arity o=3
  · obtain ⟨a,ga,_⟩:=g 0 (by omega)
    obtain ⟨b,gb,_⟩:=g 1 (by omega)
    obtain ⟨c,gc,_⟩:=g 2 (by omega)
    have i0:=v_ia0 (k:=.i64) (σ:=[]) (es:=1) (map_get (f:=irow) ga) rfl
    have i1:=v_ia1 (k:=.i64) (σ:=[]) (es:=1) (map_get (f:=irow) gb) rfl
    have i2:=v_ia2 (k:=.i64) (σ:=[]) (es:=1) (map_get (f:=irow) gc) rfl
    have l1:=eq_false (show ¬ (as.length:Int)=1 by omega)
    have e:=grp3 hk h3
    subst e
    by_cases c1:a=1<;>by_cases c2:b=c<;>(rw [r_r04_Width (lbY rfl),F_r04_Width];simp (disch:=omega) only [eqY,↓gc_len,seval,-List.reduceReplicate,reduceCtorEq,allP,q_r04_Arity,s_r04_Arity,hneg,List.length_map,hn',k0_r04_Width,hL,q_r04_Leaf,s_r04_Leaf,two,i0,i1,i2,irow,l1,eq_true c1,eq_true c2,c1,c2])<;>simp [widthW,hn,ha,two,h3,ga,gb,gc,c1,c2]
  have h2:arity o=2:=by omega
  obtain ⟨a,ga,oa⟩:=g 0 (by omega)
  obtain ⟨b,gb,ob⟩:=g 1 (by omega)
  have i0:=v_ia0 (k:=.i64) (σ:=[]) (es:=1) (map_get (f:=irow) ga) rfl
  have i1:=v_ia1 (k:=.i64) (σ:=[]) (es:=1) (map_get (f:=irow) gb) rfl
  have l1:=eq_false (show ¬ (as.length:Int)=1 by omega)
  have hg:=grp2 hk h2
  have hs:=w64_sum oa ob
  by_cases h20:o=20
  · subst h20
    by_cases c1:a<1
    · (rw [r_r04_Width (lbY rfl),F_r04_Width];simp (disch:=omega) only [eqY,↓gc_len,seval,-List.reduceReplicate,reduceCtorEq,allP,q_r04_Arity,s_r04_Arity,hneg,List.length_map,hn',k0_r04_Width,hL,q_r04_Leaf,s_r04_Leaf,two,i0,i1,irow,hs,l1,c1])
      simp [widthW,hn,ha,two,h2,ga,gb,c1,show ¬ 1≤a by omega]
    by_cases c2:b<1
    · (rw [r_r04_Width (lbY rfl),F_r04_Width];simp (disch:=omega) only [eqY,↓gc_len,seval,-List.reduceReplicate,reduceCtorEq,allP,q_r04_Arity,s_r04_Arity,hneg,List.length_map,hn',k0_r04_Width,hL,q_r04_Leaf,s_r04_Leaf,two,i0,i1,irow,hs,l1,c1,c2])
      simp [widthW,hn,ha,two,h2,ga,gb,c1,show ¬ 1≤b by omega]
    by_cases c3:64<a+b
    · (rw [r_r04_Width (lbY rfl),F_r04_Width];simp (disch:=omega) only [eqY,↓gc_len,seval,-List.reduceReplicate,reduceCtorEq,allP,q_r04_Arity,s_r04_Arity,hneg,List.length_map,hn',k0_r04_Width,hL,q_r04_Leaf,s_r04_Leaf,two,i0,i1,irow,hs,l1,c1,c2,c3])
      simp [widthW,hn,ha,two,h2,ga,gb,show ¬ a+b≤64 by omega]
    · (rw [r_r04_Width (lbY rfl),F_r04_Width];simp (disch:=omega) only [eqY,↓gc_len,seval,-List.reduceReplicate,reduceCtorEq,allP,q_r04_Arity,s_r04_Arity,hneg,List.length_map,hn',k0_r04_Width,hL,q_r04_Leaf,s_r04_Leaf,two,i0,i1,irow,hs,l1,c1,c2,c3])
      simp [widthW,hn,ha,two,h2,ga,gb,show 1≤a by omega,show 1≤b by omega,show a+b≤64 by omega]
  by_cases h16:o=16∨o=17∨o=18
  · rcases h16 with h | h | h<;>subst h<;>by_cases c1:a=b<;>(rw [r_r04_Width (lbY rfl),F_r04_Width];simp (disch:=omega) only [eqY,↓gc_len,seval,-List.reduceReplicate,reduceCtorEq,allP,q_r04_Arity,s_r04_Arity,hneg,List.length_map,hn',k0_r04_Width,hL,q_r04_Leaf,s_r04_Leaf,two,i0,i1,irow,l1,eq_true c1,c1])<;>simp [widthW,hn,ha,two,h2,ga,gb,c1]
  · have h16':=not_or.1 h16
    have h17':=not_or.1 h16'.2
    by_cases c1:a=b<;>(rw [r_r04_Width (lbY rfl),F_r04_Width];simp (disch:=omega) only [eqY,↓gc_len,seval,-List.reduceReplicate,reduceCtorEq,allP,q_r04_Arity,s_r04_Arity,hneg,List.length_map,hn',k0_r04_Width,hL,q_r04_Leaf,s_r04_Leaf,two,i0,i1,irow,l1,eq_true c1,c1,hg,h20,h16'.1,h17'.1,h17'.2])<;>simp [widthW,hn,ha,two,h2,ga,gb,c1,hg,h20,h16]
def U64 (a:Int):Prop:=0≤a∧a≤18446744073709551615
theorem fold_allG {α:Type} (q:α→Bool):∀ (as:List α) (i:Nat),foldE (S:=Unit) (T:=Unit) (fun _ _ a=>if q a=true then .inl () else .inr ()) i () as=if as.all q=true then .inl () else .inr ()
  | [],i=>rfl
  | a :: as,i=>by
    cases h:q a<;>simp [foldE,h,fold_allG q as]
theorem size_list (s:ByteArray):s.data.toList.length=s.size:=by rw [Array.length_toList];rfl
theorem get_bytes (s:ByteArray) (i:Nat):s[i]? = s.data.toList[i]? := by
  by_cases h:i<s.size
  · rw [getElem?_pos s i h,List.getElem?_eq_getElem (by rw [size_list];exact h)]
    rfl
  · rw [getElem?_neg s i h,List.getElem?_eq_none (by rw [size_list];omega)]
theorem v_idx {s:ByteArray} {i:Nat} {b:UInt8} {k:IntKind} (h:s.data.toList[i]? = some b):idxSV (.p (.str s)) (.p (.int k i))=some (.p (.int .u8 b.toNat)):=by
  simp only [idxSV,natOf,Int.natCast_nonneg,if_true,Option.bind_some,Int.toNat_natCast,get_bytes,h,Option.map_some]
theorem v_idx0 {s:ByteArray} {b:UInt8} {k:IntKind} (h:s.data.toList[0]? = some b):idxSV (.p (.str s)) (.p (.int k 0))=some (.p (.int .u8 b.toNat)):=v_idx (i:=0) h
def nameC (c:UInt8):Bool:=decide (97≤c.toNat∧c.toNat≤122∨48≤c.toNat∧c.toNat≤57∨c.toNat=95)
def nameOk (s:ByteArray):Bool:=decide (1≤s.size∧s.size≤16) && decide (97≤(s.data.toList.getD 0 0).toNat∧(s.data.toList.getD 0 0).toNat≤122) && s.data.toList.all nameC
abbrev e_Name (s:ByteArray) (i:Int):List (Nat×AV):=[(0,.p (.str s)),(24,.p (.int .i64 s.size)),(25,.p (.int .i64 i))]
abbrev e_NameR (s:ByteArray) (i:Int):List (Nat×AV):=[(0,.p (.str s)),(3,.p (.int .i64 i))]
theorem l_term_Name (s:ByteArray) (hl:s.size≤16):if s.data.toList.all nameC=true then
      loopAt P L0_term_Name (e_Name s 0) σ 50 rd=some (.exit 0,⟨upd (tm (e_Name s s.size)) 26 (.p (.bool false)),σ,50,rd⟩)
    else ∃ r,loopAt P L0_term_Name (e_Name s 0) σ 50 rd=some r∧ret1 2 (.bool false) σ r:=by
  have h:=loop_foldE (P:=P) (nt:=50) (rd:=rd) (lv:=[0,24,25]) (b:=B0_term_Name) (x:=0) (as:=s.data.toList) (fun i (_:Unit)=>e_Name s i) (fun _=>σ) (fun i _ a=>if nameC a=true then .inl () else .inr ())
    (fun _=>⟨upd (tm (e_Name s s.size)) 26 (.p (.bool false)),σ,50,rd⟩) (fun _=>ret1 2 (.bool false) σ) (fun _ _=>True)
    (fun i a _ ha hi hs=>by
      refine ⟨fun _ _=>trivial,?_⟩
      rw [size_list] at hi
      have hlt:((i:Int)<s.size)=True:=by simpa using hi
      have hix:=v_idx (k:=.i64) ha
      by_cases h1:(a.toNat:Int)<97<;>by_cases h2:(122:Int)<a.toNat<;>by_cases h3:(a.toNat:Int)<48<;>by_cases h4:(57:Int)<a.toNat<;>by_cases h5:(a.toNat:Int)=95
      all_goals first
        | (exfalso;omega)
        | (have hn:nameC a=true:=by unfold nameC;rw [decide_eq_true_eq];omega
           simp only [B0_term_Name]
           simp (disch:=omega) only [eqY,↓gc_len,seval,-List.reduceReplicate,reduceCtorEq,allP,hlt,hix,h1,h2,h3,h4,eq_true h5,hn,ret1]
           done)
        | (have hn:nameC a=false:=by unfold nameC;rw [decide_eq_false_iff_not];omega
           simp only [B0_term_Name]
           simp (disch:=omega) only [eqY,↓gc_len,seval,-List.reduceReplicate,reduceCtorEq,allP,hlt,hix,h1,h2,h3,h4,h5,hn,ret1]
           done)) (fun s' hs=>by
      rw [size_list]
      simp only [B0_term_Name]
      simp (disch:=omega) only [eqY,↓gc_len,seval,-List.reduceReplicate,reduceCtorEq,allP,Int.lt_irrefl]) (fun i s=>rfl) () trivial
  rw [fold_allG] at h
  exact (done_if h :)
theorem l_r07_Name (s:ByteArray) (hl:s.size≤16):if s.data.toList.all nameC=true then
      loopAt P L0_r07_Name (e_NameR s 0) σ 52 rd=some (.exit 0,⟨upd (upd (upd (upd (tm (e_NameR s s.size)) 23 (.p (.int .i64 s.size))) 24 (.p (.str s))) 25 (.p (.int .i64 s.size))) 26 (.p (.bool false)),σ,52,rd⟩)
    else ∃ r,loopAt P L0_r07_Name (e_NameR s 0) σ 52 rd=some r∧ret1 2 (.bool false) σ r:=by
  have h:=loop_foldE (P:=P) (nt:=52) (rd:=rd) (lv:=[0,3]) (b:=B0_r07_Name) (x:=0) (as:=s.data.toList) (fun i (_:Unit)=>e_NameR s i) (fun _=>σ) (fun i _ a=>if nameC a=true then .inl () else .inr ())
    (fun _=>⟨upd (upd (upd (upd (tm (e_NameR s s.size)) 23 (.p (.int .i64 s.size))) 24 (.p (.str s))) 25 (.p (.int .i64 s.size))) 26 (.p (.bool false)),σ,52,rd⟩) (fun _=>ret1 2 (.bool false) σ) (fun _ _=>True)
    (fun i a _ ha hi hs=>by
      refine ⟨fun _ _=>trivial,?_⟩
      rw [size_list] at hi
      have hlt:((i:Int)<s.size)=True:=by simpa using hi
      have hix:=v_idx (k:=.i64) ha
      by_cases h1:(97:Int)≤a.toNat<;>by_cases h2:(a.toNat:Int)≤122<;>by_cases h3:(48:Int)≤a.toNat<;>by_cases h4:(a.toNat:Int)≤57<;>by_cases h5:(a.toNat:Int)=95
      all_goals first
        | (exfalso;omega)
        | (have hn:nameC a=true:=by unfold nameC;rw [decide_eq_true_eq];omega
           simp only [B0_r07_Name]
           simp (disch:=omega) only [eqY,↓gc_len,seval,-List.reduceReplicate,reduceCtorEq,allP,hlt,hix,h1,h2,h3,h4,eq_true h5,hn,ret1]
           done)
        | (have hn:nameC a=false:=by unfold nameC;rw [decide_eq_false_iff_not];omega
           simp only [B0_r07_Name]
           simp (disch:=omega) only [eqY,↓gc_len,seval,-List.reduceReplicate,reduceCtorEq,allP,hlt,hix,h1,h2,h3,h4,h5,hn,ret1]
           done)) (fun s' hs=>by
      rw [size_list]
      simp only [B0_r07_Name]
      simp (disch:=omega) only [eqY,↓gc_len,seval,-List.reduceReplicate,reduceCtorEq,allP,Int.lt_irrefl]) (fun i s=>rfl) () trivial
  rw [fold_allG] at h
  exact (done_if h :)
theorem s_term_Name (s:ByteArray):R P f_term_Name [.str s]=some (.bool (nameOk s)):=by
  unfold nameOk
  by_cases h1:(s.size:Int)<1
  · (rw [r_term_Name (lbY rfl),F_term_Name];simp (disch:=omega) only [eqY,↓gc_len,seval,-List.reduceReplicate,reduceCtorEq,allP,h1])
    simp [show ¬ 1≤s.size by omega]
  by_cases h2:(16:Int)<s.size
  · (rw [r_term_Name (lbY rfl),F_term_Name];simp (disch:=omega) only [eqY,↓gc_len,seval,-List.reduceReplicate,reduceCtorEq,allP,h1,h2])
    simp [show ¬ s.size≤16 by omega]
  have hlen:=size_list s
  obtain ⟨b,hb⟩:∃ b,s.data.toList[0]? = some b:=⟨_,List.getElem?_eq_getElem (by omega)⟩
  have hix:=v_idx0 (k:=.i64) hb
  by_cases h3:(b.toNat:Int)<97
  · (rw [r_term_Name (lbY rfl),F_term_Name];simp (disch:=omega) only [eqY,↓gc_len,seval,-List.reduceReplicate,reduceCtorEq,allP,h1,h2,hix,h3])
    simp [List.getD,hb,show ¬ 97≤b.toNat by omega]
  by_cases h4:(122:Int)<b.toNat
  · (rw [r_term_Name (lbY rfl),F_term_Name];simp (disch:=omega) only [eqY,↓gc_len,seval,-List.reduceReplicate,reduceCtorEq,allP,h1,h2,hix,h3,h4])
    simp [List.getD,hb,show ¬ b.toNat≤122 by omega]
  have hL:=l_term_Name (σ:=[]) (rd:=none) s (by omega)
  by_cases ha:s.data.toList.all nameC=true
  · rw [if_pos ha] at hL
    (rw [r_term_Name (lbY rfl),F_term_Name];simp (disch:=omega) only [eqY,↓gc_len,seval,-List.reduceReplicate,reduceCtorEq,allP,h1,h2,hix,h3,h4,k0_term_Name,hL])
    rw [ha]
    simp [List.getD,hb,show 97≤b.toNat by omega,show b.toNat≤122 by omega,show 1≤s.size by omega,show s.size≤16 by omega]
  · rw [if_neg ha] at hL
    obtain ⟨⟨e,τ',σ',nt',rd'⟩,h1',h2',h3',h4'⟩:=hL
    simp only at h2' h3' h4'
    subst h2';subst h4'
    (rw [r_term_Name (lbY rfl),F_term_Name];simp (disch:=omega) only [eqY,↓gc_len,seval,-List.reduceReplicate,reduceCtorEq,allP,h1,h2,hix,h3,h4,k0_term_Name,h1',h3'])
    rw [Bool.eq_false_iff.2 ha]
    simp
theorem s_r07_Name (s:ByteArray):R P f_r07_Name [.str s]=some (.bool (nameOk s)):=by
  unfold nameOk
  by_cases h1:(s.size:Int)<1
  · (rw [r_r07_Name (lbY rfl),F_r07_Name];simp (disch:=omega) only [eqY,↓gc_len,seval,-List.reduceReplicate,reduceCtorEq,allP,h1])
    simp [show ¬ 1≤s.size by omega]
  by_cases h2:(16:Int)<s.size
  · (rw [r_r07_Name (lbY rfl),F_r07_Name];simp (disch:=omega) only [eqY,↓gc_len,seval,-List.reduceReplicate,reduceCtorEq,allP,h1,h2])
    simp [show ¬ s.size≤16 by omega]
  have hlen:=size_list s
  obtain ⟨b,hb⟩:∃ b,s.data.toList[0]? = some b:=⟨_,List.getElem?_eq_getElem (by omega)⟩
  have hix:=v_idx0 (k:=.i64) hb
  by_cases h3:(b.toNat:Int)<97
  · (rw [r_r07_Name (lbY rfl),F_r07_Name];simp (disch:=omega) only [eqY,↓gc_len,seval,-List.reduceReplicate,reduceCtorEq,allP,h1,h2,hix,h3])
    simp [List.getD,hb,show ¬ 97≤b.toNat by omega]
  by_cases h4:(122:Int)<b.toNat
  · (rw [r_r07_Name (lbY rfl),F_r07_Name];simp (disch:=omega) only [eqY,↓gc_len,seval,-List.reduceReplicate,reduceCtorEq,allP,h1,h2,hix,h3,h4])
    simp [List.getD,hb,show ¬ b.toNat≤122 by omega]
  have hL:=l_r07_Name (σ:=[]) (rd:=none) s (by omega)
  by_cases ha:s.data.toList.all nameC=true
  · rw [if_pos ha] at hL
    (rw [r_r07_Name (lbY rfl),F_r07_Name];simp (disch:=omega) only [eqY,↓gc_len,seval,-List.reduceReplicate,reduceCtorEq,allP,h1,h2,hix,h3,h4,k0_r07_Name,hL])
    rw [ha]
    simp [List.getD,hb,show 97≤b.toNat by omega,show b.toNat≤122 by omega,show 1≤s.size by omega,show s.size≤16 by omega]
  · rw [if_neg ha] at hL
    obtain ⟨⟨e,τ',σ',nt',rd'⟩,h1',h2',h3',h4'⟩:=hL
    simp only at h2' h3' h4'
    subst h2';subst h4'
    (rw [r_r07_Name (lbY rfl),F_r07_Name];simp (disch:=omega) only [eqY,↓gc_len,seval,-List.reduceReplicate,reduceCtorEq,allP,h1,h2,hix,h3,h4,k0_r07_Name,h1',h3'])
    rw [Bool.eq_false_iff.2 ha]
    simp
end Go.AE.S
namespace Go.AE
namespace Term
mutual
def count:Term→Nat
  | .mk _ _ _ _ as=>1+counts as
def counts:List Term→Nat
  | []=>0
  | t :: r=>t.count+counts r
end
mutual
def left:Term→Int→Int
  | .mk _ _ _ _ as,n=>lefts as (n-1)
def lefts:List Term→Int→Int
  | [],n=>n
  | a :: as,n=>if n<0 then -1 else lefts as (a.left n)
end
mutual
def deep:Term→Nat
  | .mk _ _ _ _ as=>deeps as+1
def deeps:List Term→Nat
  | []=>0
  | t :: r=>max t.deep (deeps r)
end
theorem count_eq (t:Term):t.count=1+counts t.args:=by cases t;simp [count,args]
theorem left_eq (t:Term) (n:Int):t.left n=lefts t.args (n-1):=by cases t;simp [left,args]
theorem deep_eq (t:Term):t.deep=deeps t.args+1:=by cases t;simp [deep,args]
theorem counts_mem {l:List Term} {a:Term} (h:a∈l):a.count≤counts l:=by
  induction l with
  | nil=>simp at h
  | cons b l ih=>
    simp only [counts]
    rcases List.mem_cons.1 h with rfl | h
    · omega
    · have:=ih h;omega
theorem count_pos (t:Term):1≤t.count:=by rw [count_eq];omega
theorem counts_len (l:List Term):l.length≤counts l:=by
  induction l with
  | nil=>simp
  | cons b l ih=>simp only [counts,List.length_cons];have:=count_pos b;omega
theorem left_count:∀ (t:Term) (n:Int),((t.count:Int)≤n→t.left n=n-t.count)∧(n<t.count→t.left n<0):=by
  apply ind
  intro t ih n
  have key:∀ (l:List Term),(∀ a∈l,∀ (n:Int),((a.count:Int)≤n→a.left n=n-a.count)∧(n<a.count→a.left n<0))→∀ n:Int,((counts l:Int)≤n→lefts l n=n-counts l)∧(n<counts l→lefts l n<0):=by
    intro l
    induction l with
    | nil=>intro _ n;simp [lefts,counts]
    | cons a l ihl=>
      intro ha n
      have h1:=ha a (by simp) n
      have h2:=ihl (fun b hb=>ha b (by simp [hb])) (a.left n)
      simp only [lefts,counts]
      have hc:=count_pos a
      by_cases hn:n<0
      · rw [if_pos hn]
        constructor
        · intro h;omega
        · intro;omega
      · rw [if_neg hn]
        by_cases hle:(a.count:Int)≤n
        · have e:=h1.1 hle
          rw [e] at h2 ⊢
          constructor
          · intro h;rw [h2.1 (by omega)];omega
          · intro h;exact h2.2 (by omega)
        · have e:=h1.2 (by omega)
          constructor
          · intro h;omega
          · intro h;exact h2.2 (by omega)
  have hk:=key t.args ih (n-1)
  rw [left_eq,count_eq]
  constructor
  · intro h;rw [hk.1 (by omega)];omega
  · intro h;exact hk.2 (by omega)
theorem left_nonneg (t:Term) (n:Int):0≤t.left n↔(t.count:Int)≤n:=by
  have h:=left_count t n
  constructor
  · intro h0
    rcases Int.lt_or_le n t.count with h1 | h1
    · have:=h.2 h1;omega
    · exact h1
  · intro h1
    rw [h.1 h1];omega
theorem left_low:∀ (t:Term) (n:Int),-9223372036854775807≤n→n≤1000000 → -9223372036854775808≤t.left n∧t.left n≤1000000:=by
  apply ind
  intro t ih n h1 h2
  rw [left_eq]
  have key:∀ (l:List Term),(∀ a∈l,a∈t.args)→∀ n:Int,-9223372036854775808≤n→n≤1000000 → -9223372036854775808≤lefts l n∧lefts l n≤1000000:=by
    intro l
    induction l with
    | nil=>intro _ n h1 h2;exact ⟨h1,h2⟩
    | cons a l ihl=>
      intro ha n h1 h2
      simp only [lefts]
      by_cases hn:n<0
      · rw [if_pos hn];omega
      · rw [if_neg hn]
        have:=ih a (ha a (by simp)) n (by omega) h2
        exact ihl (fun b hb=>ha b (by simp [hb])) _ this.1 this.2
  exact key t.args (fun _ h=>h) (n-1) (by omega) (by omega)
end Term
namespace S
open Go Go.AE
set_option linter.unusedSimpArgs false
set_option linter.unusedVariables false
variable {τ:Tm} {σ:Store} {rd:Option Nat}
inductive TOk:Term→Prop
  | mk (t:Term) (h1 : -9223372036854775808≤t.op∧t.op≤9223372036854775807) (h2 : -9223372036854775808≤t.w∧t.w≤9223372036854775807) (h3:U64 t.v) (h4:t.name.size≤9223372036854775807) (h5:t.args.length≤9223372036854775807) (h:∀ a∈t.args,TOk a):TOk t
theorem TOk.op {t:Term} (h:TOk t) : -9223372036854775808≤t.op∧t.op≤9223372036854775807:=by cases h;assumption
theorem TOk.w {t:Term} (h:TOk t) : -9223372036854775808≤t.w∧t.w≤9223372036854775807:=by cases h;assumption
theorem TOk.v {t:Term} (h:TOk t):U64 t.v:=by cases h;assumption
theorem TOk.name {t:Term} (h:TOk t):t.name.size≤9223372036854775807:=by cases h;assumption
theorem TOk.len {t:Term} (h:TOk t):t.args.length≤9223372036854775807:=by cases h;assumption
theorem TOk.args {t:Term} (h:TOk t) {a:Term} (ha:a∈t.args):TOk a:=by cases h;rename_i h;exact h a ha
abbrev e_left (t:Term) (m:Int) (i:Int):List (Nat×AV):=[(1,.p (.int .i64 m)),(2,.p (.ptr t.row 0)),(10,.p (.int .i64 t.args.length)),(11,.p (.int .i64 i))]
theorem fold_left (l:List Term):∀ (i:Nat) (s:Int),doneP (fun s'=>Term.lefts l s=s') (fun _=>Term.lefts l s = -1) (foldE (T:=Unit) (fun _ s (a:Term)=>if s<0 then .inr () else .inl (a.left s)) i s l):=by
  induction l with
  | nil=>intro i s;rfl
  | cons a l ih=>
    intro i s
    simp only [foldE,Term.lefts]
    by_cases h:s<0
    · simp only [h,if_true];trivial
    · simp only [h,if_false];exact ih _ _
theorem s_r10_left (t:Term):TOk t→∀ n:Int,-9223372036854775807≤n→n≤1000000→R P f_r10_left [.agg t.row,.int .i64 n]=some (.int .i64 (t.left n)):=by
  induction t using Term.ind with
  | h t ih=>
  intro ht n h1 h2
  have hw:IntKind.i64.wrap (n-1)=n-1:=w_id (by omega)
  have h:=loop_foldE (P:=P) (nt:=25) (rd:=none) (lv:=[1,2,10,11]) (b:=B0_r10_left) (x:=0) (as:=t.args) (fun i (s:Int)=>e_left t s i) (fun _=>[]) (fun _ s a=>if s<0 then .inr () else .inl (a.left s))
    (fun s=>⟨upd (tm (e_left t s t.args.length)) 12 (.p (.bool false)),[],25,none⟩) (fun _=>ret1 4 (.int .i64 (-1)) []) (fun _ s=>-9223372036854775808≤s∧s≤1000000)
    (fun i a s ha hi hs=>by
      have hm:=List.mem_of_getElem? ha
      have hlt:((i:Int)<t.args.length)=True:=by simpa using hi
      have hl:=ht.len
      by_cases hc:s<0
      · refine ⟨by simp [hc],?_⟩
        simp only [B0_r10_left]
        simp (disch:=omega) only [eqY,↓gc_len,seval,-List.reduceReplicate,reduceCtorEq,allP,hlt,hc,ret1]
      · have hr:=ih a hm (ht.args hm) s (by omega) (by omega)
        have hb:=Term.left_low a s (by omega) hs.2
        refine ⟨by simp only [hc,if_false];rintro s' ⟨⟩;exact hb,?_⟩
        simp only [B0_r10_left]
        simp (disch:=omega) only [eqY,↓gc_len,seval,-List.reduceReplicate,reduceCtorEq,allP,hlt,hc,v_iadr (map_get (f:=Term.row) ha) a.row_len,q_r10_left,hr]) (fun s hs=>by
      simp only [B0_r10_left]
      simp (disch:=omega) only [eqY,↓gc_len,seval,-List.reduceReplicate,reduceCtorEq,allP,Int.lt_irrefl]) (fun i s=>rfl) (n-1) (by omega)
  have hf:=fold_left t.args 0 (n-1)
  rw [← Term.left_eq] at hf
  cases hfe:foldE (T:=Unit) (fun _ s (a:Term)=>if s<0 then .inr () else .inl (a.left s)) 0 (n-1) t.args with
  | inl s=>
    rw [hfe] at h hf
    have h':loopAt P L0_r10_left (e_left t (n-1) 0) [] 25 none=some (.exit 0,⟨upd (tm (e_left t s t.args.length)) 12 (.p (.bool false)),[],25,none⟩):=h
    have hf':t.left n=s:=hf
    (rw [r_r10_left (lbY rfl),F_r10_left];simp (disch:=omega) only [eqY,↓gc_len,seval,-List.reduceReplicate,reduceCtorEq,allP,List.length_map,k0_r10_left,hw,h'])
    rw [hf']
  | inr u=>
    rw [hfe] at h hf
    obtain ⟨⟨e,τ',σ',nt',rd'⟩,g1,g2,g3,g4⟩:=h
    simp only at g2 g3 g4
    subst g2;subst g4
    have h':loopAt P L0_r10_left (e_left t (n-1) 0) [] 25 none=some (.ret,⟨τ',[],nt',rd'⟩):=g1
    have hf':t.left n = -1:=hf
    (rw [r_r10_left (lbY rfl),F_r10_left];simp (disch:=omega) only [eqY,↓gc_len,seval,-List.reduceReplicate,reduceCtorEq,allP,List.length_map,k0_r10_left,hw,h',g3])
    rw [hf']
theorem s_r10_Small (t:Term) (ht:TOk t) (n:Int) (h1 : -9223372036854775807≤n) (h2:n≤1000000):R P f_r10_Small [.agg t.row,.int .i64 n]=some (.bool (decide ((t.count:Int)≤n))):=by
  (rw [r_r10_Small (lbY rfl),F_r10_Small];simp (disch:=omega) only [eqY,↓gc_len,seval,-List.reduceReplicate,reduceCtorEq,allP,q_r10_left,s_r10_left t ht n h1 h2,Term.left_nonneg])
end S
namespace Term
end Term
namespace S
open Go Go.AE
set_option linter.unusedSimpArgs false
set_option linter.unusedVariables false
variable {τ:Tm} {σ:Store} {rd:Option Nat}
theorem counts_take (as:List Term) (i:Nat) (a:Term) (h:as[i]? = some a):Term.counts (as.take (i+1))=Term.counts (as.take i)+a.count:=by
  induction as generalizing i with
  | nil=>simp at h
  | cons b as ih=>
    cases i with
    | zero=>simp at h;subst h;simp [Term.counts]
    | succ i=>simp only [List.take_succ_cons,Term.counts];rw [ih i (by simpa using h)];omega
theorem counts_take_le (as:List Term) (i:Nat):Term.counts (as.take i)≤Term.counts as:=by
  induction as generalizing i with
  | nil=>simp [Term.counts]
  | cons b as ih=>
    cases i with
    | zero=>simp [Term.counts]
    | succ i=>simp only [List.take_succ_cons,Term.counts];have:=ih i;omega
theorem foldE_count (as:List Term):∀ (i:Nat) (acc:Int),foldE (T:=Empty) (fun _ s (a:Term)=>.inl (s+(a.count:Int))) i acc as=.inl (acc+(Term.counts as:Int)):=by
  induction as with
  | nil=>intro i acc;simp [foldE,Term.counts]
  | cons a as ih=>intro i acc;simp only [foldE,Term.counts];rw [ih];congr 1;omega
abbrev e_Size (as:List Term) (s i:Int):List (Nat×AV):=[(3,.p (.int .i64 s)),(7,.p (.lst (as.map Term.row))),(8,.p (.int .i64 as.length)),(9,.p (.int .i64 i))]
theorem s_term_Size (t:Term):t.count≤1000000→R P f_term_Size [.agg t.row]=some (.int .i64 t.count):=by
  induction t using Term.ind with
  | h t ih=>
  intro hc
  rw [Term.count_eq] at hc ⊢
  have hlen:=Term.counts_len t.args
  have h:=loop_fold (P:=P) (nt:=19) (rd:=none) (lv:=[3,7,8,9]) (b:=B0_term_Size) (x:=0) (as:=t.args) (fun i (s:Int)=>e_Size t.args s i) (fun _=>[]) (fun i s a=>s+(a.count:Int)) (fun s=>⟨upd (tm (e_Size t.args s t.args.length)) 10 (.p (.bool false)),[],19,none⟩) (fun i s=>s=1+Term.counts (t.args.take i))
    (fun i a s ha hi hs=>by
      have hm:=List.mem_of_getElem? ha
      have hac:=Term.counts_mem hm
      have h1:=counts_take t.args i a ha
      have h2:=counts_take_le t.args (i+1)
      have hr:=ih a hm (by omega)
      have hlt:((i:Int)<t.args.length)=True:=by simpa using hi
      have hw:IntKind.i64.wrap (s+a.count)=s+a.count:=w_id (by omega)
      refine ⟨by omega,?_⟩
      simp only [B0_term_Size]
      simp (disch:=omega) only [eqY,↓gc_len,seval,-List.reduceReplicate,reduceCtorEq,allP,hlt,v_iadr (map_get (f:=Term.row) ha) a.row_len,q_term_Size,hr,hw]) (fun s hs=>by
      simp only [B0_term_Size]
      simp (disch:=omega) only [eqY,↓gc_len,seval,-List.reduceReplicate,reduceCtorEq,allP,Int.lt_irrefl]) (fun i s=>rfl) 1 (by simp [Term.counts]) _ (foldE_count t.args 0 1)
  have h':loopAt P L0_term_Size (e_Size t.args 1 0) [] 19 none=some (.exit 0,⟨upd (tm (e_Size t.args (1+Term.counts t.args) t.args.length)) 10 (.p (.bool false)),[],19,none⟩):=h
  (rw [r_term_Size (lbY rfl),F_term_Size];simp (disch:=omega) only [eqY,↓gc_len,seval,-List.reduceReplicate,reduceCtorEq,allP,List.length_map,k0_term_Size,h'])
  rfl
theorem deep_count (t:Term):t.deep≤t.count:=by
  induction t using Term.ind with
  | h t ih=>
  rw [Term.deep_eq,Term.count_eq]
  have key:∀ l:List Term,(∀ a∈l,a.deep≤a.count)→Term.deeps l≤Term.counts l:=by
    intro l
    induction l with
    | nil=>intro _;simp [Term.deeps,Term.counts]
    | cons a l ihl=>intro h;simp only [Term.deeps,Term.counts];have:=h a (by simp);have:=ihl (fun b hb=>h b (by simp [hb]));omega
  have:=key t.args ih
  omega
theorem foldE_deep (as:List Term):∀ (i:Nat) (acc:Int),0≤acc→foldE (T:=Empty) (fun _ s (a:Term)=>.inl (max s (a.deep:Int))) i acc as=.inl (max acc (Term.deeps as:Int)):=by
  induction as with
  | nil=>intro i acc h;simp [foldE,Term.deeps];omega
  | cons a as ih=>intro i acc h;simp only [foldE,Term.deeps];rw [ih _ _ (by omega)];congr 1;omega
theorem s_term_Depth (t:Term):t.count≤1000000→R P f_term_Depth [.agg t.row]=some (.int .i64 t.deep):=by
  induction t using Term.ind with
  | h t ih=>
  intro hc
  have hdc:=deep_count t
  rw [Term.deep_eq] at hdc ⊢
  have hcc:=Term.count_eq t
  have hlen:=Term.counts_len t.args
  have h:=loop_fold (P:=P) (nt:=20) (rd:=none) (lv:=[3,7,8,9]) (b:=B0_term_Depth) (x:=0) (as:=t.args) (fun i (s:Int)=>e_Size t.args s i) (fun _=>[]) (fun i s a=>max s (a.deep:Int)) (fun s=>⟨upd (tm (e_Size t.args s t.args.length)) 10 (.p (.bool false)),[],20,none⟩) (fun i s=>True)
    (fun i a s ha hi hs=>by
      have hm:=List.mem_of_getElem? ha
      have hac:=Term.counts_mem hm
      have hr:=ih a hm (by omega)
      have hlt:((i:Int)<t.args.length)=True:=by simpa using hi
      refine ⟨trivial,?_⟩
      simp only [B0_term_Depth]
      simp (disch:=omega) only [eqY,↓gc_len,seval,-List.reduceReplicate,reduceCtorEq,allP,hlt,v_iadr (map_get (f:=Term.row) ha) a.row_len,q_term_Depth,hr]) (fun s hs=>by
      simp only [B0_term_Depth]
      simp (disch:=omega) only [eqY,↓gc_len,seval,-List.reduceReplicate,reduceCtorEq,allP,Int.lt_irrefl]) (fun i s=>rfl) 0 trivial _ (foldE_deep t.args 0 0 (by omega))
  have h':loopAt P L0_term_Depth (e_Size t.args 0 0) [] 20 none=some (.exit 0,⟨upd (tm (e_Size t.args (Term.deeps t.args) t.args.length)) 10 (.p (.bool false)),[],20,none⟩):=by
    have e:max (0:Int) (Term.deeps t.args:Int)=Term.deeps t.args:=by omega
    rw [e] at h
    exact h
  (rw [r_term_Depth (lbY rfl),F_term_Depth];simp (disch:=omega) only [eqY,↓gc_len,seval,-List.reduceReplicate,reduceCtorEq,allP,List.length_map,k0_term_Depth,h'])
abbrev e_Deep (t:Term) (n i:Int):List (Nat×AV):=[(1,.p (.int .i64 n)),(2,.p (.ptr t.row 0)),(5,.p (.int .i64 i))]
theorem deeps_all (as:List Term) (n:Int) (h0:0≤n):as.all (fun a=>decide ((a.deep:Int)≤n))=decide ((Term.deeps as:Int)≤n):=by
  induction as with
  | nil=>simp [Term.deeps,h0]
  | cons a as ih=>
    have e:((Term.deeps (a :: as):Nat):Int)≤n↔(a.deep:Int)≤n∧(Term.deeps as:Int)≤n:=by
      simp only [Term.deeps]
      rcases Nat.le_total a.deep (Term.deeps as) with h | h
      · rw [Nat.max_eq_right h];omega
      · rw [Nat.max_eq_left h];omega
    rw [List.all_cons,ih,Bool.eq_iff_iff]
    simp only [Bool.and_eq_true,decide_eq_true_eq,e]
theorem s_r07_Deep (t:Term):TOk t→∀ n:Int,n≤1000000→R P f_r07_Deep [.agg t.row,.int .i64 n]=some (.bool (decide (n<t.deep))):=by
  induction t using Term.ind with
  | h t ih=>
  intro ht n hn
  rw [Term.deep_eq]
  by_cases h1:n<1
  · (rw [r_r07_Deep (lbY rfl),F_r07_Deep];simp (disch:=omega) only [eqY,↓gc_len,seval,-List.reduceReplicate,reduceCtorEq,allP,h1])
    simp only [Option.some.injEq,PV.bool.injEq]
    rw [eq_comm,decide_eq_true_eq]
    omega
  have hw:IntKind.i64.wrap (n-1)=n-1:=w_id (by omega)
  have h:=loop_foldE (P:=P) (nt:=23) (rd:=none) (lv:=[1,2,5]) (b:=B0_r07_Deep) (x:=0) (as:=t.args) (fun i (_:Unit)=>e_Deep t n i) (fun _=>[]) (fun _ _ a=>if decide ((a.deep:Int)≤n-1)=true then .inl () else .inr ())
    (fun s=>⟨upd (upd (upd (upd (upd (tm (e_Deep t n t.args.length)) 8 (.p (.int .i64 t.args.length))) 9 (.p (.ptr t.row 4))) 10 (.p (.lst (t.args.map Term.row)))) 11 (.p (.int .i64 t.args.length))) 12 (.p (.bool false)),[],23,none⟩) (fun _=>ret1 4 (.bool true) []) (fun _ s=>True)
    (fun i a s ha hi hs=>by
      have hm:=List.mem_of_getElem? ha
      have hlt:((i:Int)<t.args.length)=True:=by simpa using hi
      have hl:=ht.len
      have hr:=ih a hm (ht.args hm) (n-1) (by omega)
      refine ⟨fun _ _=>trivial,?_⟩
      by_cases hc:(a.deep:Int)≤n-1
      · have hc':¬ n-1<(a.deep:Int):=by omega
        simp only [B0_r07_Deep]
        simp (disch:=omega) only [eqY,↓gc_len,seval,-List.reduceReplicate,reduceCtorEq,allP,hlt,hc,hc',v_iadr (map_get (f:=Term.row) ha) a.row_len,q_r07_Deep,hw,hr,List.length_map]
      · have hc':n-1<(a.deep:Int):=by omega
        simp only [B0_r07_Deep]
        simp (disch:=omega) only [eqY,↓gc_len,seval,-List.reduceReplicate,reduceCtorEq,allP,hlt,hc,hc',v_iadr (map_get (f:=Term.row) ha) a.row_len,q_r07_Deep,hw,hr,ret1,List.length_map]) (fun s hs=>by
      simp only [B0_r07_Deep]
      simp (disch:=omega) only [eqY,↓gc_len,seval,-List.reduceReplicate,reduceCtorEq,allP,Int.lt_irrefl,List.length_map]) (fun i s=>rfl) () trivial
  rw [fold_allG,deeps_all _ _ (by omega)] at h
  have h2:=done_if h
  by_cases hc:(Term.deeps t.args:Int)≤n-1
  · rw [if_pos (by simpa using hc)] at h2
    have h':loopAt P L0_r07_Deep (e_Deep t n 0) [] 23 none=_:=h2
    (rw [r_r07_Deep (lbY rfl),F_r07_Deep];simp (disch:=omega) only [eqY,↓gc_len,seval,-List.reduceReplicate,reduceCtorEq,allP,k0_r07_Deep,h1,h'])
    simp only [Option.some.injEq,PV.bool.injEq]
    rw [eq_comm,decide_eq_false_iff_not]
    omega
  · rw [if_neg (by simpa using hc)] at h2
    obtain ⟨⟨e,τ',σ',nt',rd'⟩,g1,g2,g3,g4⟩:=h2
    simp only at g2 g3 g4
    subst g2;subst g4
    have h':loopAt P L0_r07_Deep (e_Deep t n 0) [] 23 none=some (.ret,⟨τ',[],nt',rd'⟩):=g1
    (rw [r_r07_Deep (lbY rfl),F_r07_Deep];simp (disch:=omega) only [eqY,↓gc_len,seval,-List.reduceReplicate,reduceCtorEq,allP,k0_r07_Deep,h1,h',g3])
    simp only [Option.some.injEq,PV.bool.injEq]
    rw [eq_comm,decide_eq_true_eq]
    omega
end S
namespace Term
mutual
def pre:Term→List Term
  | .mk o w v s as=>.mk o w v s as :: pres as
def pres:List Term→List Term
  | []=>[]
  | a :: as=>pre a++pres as
end
mutual
def post:Term→List Term
  | .mk o w v s as=>posts as++[.mk o w v s as]
def posts:List Term→List Term
  | []=>[]
  | a :: as=>post a++posts as
end
theorem pre_eq (t:Term):t.pre=t :: pres t.args:=by cases t;rw [pre];rfl
theorem post_eq (t:Term):t.post=posts t.args++[t]:=by cases t;rw [post];rfl
theorem pres_eq:∀ l:List Term,pres l=l.flatMap pre
  | []=>rfl
  | a :: l=>by rw [pres,pres_eq l];rfl
theorem posts_eq:∀ l:List Term,posts l=l.flatMap post
  | []=>rfl
  | a :: l=>by rw [posts,posts_eq l];rfl
theorem pres_len:∀ l:List Term,(∀ a∈l,a.pre.length=a.count)→(pres l).length=counts l
  | [],_=>rfl
  | a :: l,h=>by rw [pres,counts,List.length_append,h a (by simp),pres_len l fun b hb=>h b (by simp [hb])]
theorem pre_len (t:Term):t.pre.length=t.count:=by
  induction t using ind with
  | h t ih=>rw [pre_eq,count_eq,List.length_cons,pres_len _ ih];omega
theorem posts_len:∀ l:List Term,(∀ a∈l,a.post.length=a.count)→(posts l).length=counts l
  | [],_=>rfl
  | a :: l,h=>by rw [posts,counts,List.length_append,h a (by simp),posts_len l fun b hb=>h b (by simp [hb])]
theorem post_len (t:Term):t.post.length=t.count:=by
  induction t using ind with
  | h t ih=>rw [post_eq,count_eq,List.length_append,posts_len _ ih];simp;omega
end Term
namespace S
open Go Go.AE
set_option linter.unusedSimpArgs false
set_option linter.unusedVariables false
variable {τ:Tm} {σ:Store} {rd:Option Nat}
theorem fold_app {α β:Type} (g:α→List β):∀ (l:List α) (i:Nat) (s:List β),foldE (T:=Empty) (fun _ s a=>.inl (s++g a)) i s l=.inl (s++l.flatMap g)
  | [],i,s=>by simp [foldE]
  | a :: l,i,s=>by simp only [foldE];rw [fold_app g l];simp
abbrev e_Pre (t:Term) (s:List Term) (i:Int):List (Nat×AV):=[(1,.p (.ptr t.row 0)),(3,.sl 0 s.length),(4,.p (.int .i64 i))]
abbrev sT (s:List Term):Store:=[.pv 5 (s.map Term.row) false]
theorem flatMap_take_le {g:Term→List Term} (hg:∀ a,(g a).length=a.count) (l:List Term) (i:Nat):((l.take i).flatMap g).length≤Term.counts l:=by
  induction l generalizing i with
  | nil=>simp [Term.counts]
  | cons a l ih=>
    cases i with
    | zero=>simp
    | succ i=>simp only [List.take_succ_cons,List.flatMap_cons,List.length_append,hg,Term.counts];have:=ih i;omega
theorem take_flatMap {g:Term→List Term} {l:List Term} {i:Nat} {a:Term} (h:l[i]? = some a):(l.take (i+1)).flatMap g=(l.take i).flatMap g++g a:=by
  rw [List.take_add_one,h];simp
theorem s_r24_Preorder (t:Term):t.count≤1000000→R P f_r24_Preorder [.agg t.row]=some (.lst (t.pre.map Term.row)):=by
  induction t using Term.ind with
  | h t ih=>
  intro hc
  have hlen:=Term.counts_len t.args
  have hct:=Term.count_eq t
  have h:=loop_fold (P:=P) (nt:=23) (rd:=none) (lv:=[1,3,4]) (b:=B0_r24_Preorder) (x:=0) (as:=t.args) (fun i (s:List Term)=>e_Pre t s i) sT (fun i s a=>s++a.pre)
    (fun s=>⟨upd (upd (upd (upd (upd (tm (e_Pre t s t.args.length)) 7 (.p (.int .i64 t.args.length))) 8 (.p (.ptr t.row 4))) 9 (.p (.lst (t.args.map Term.row)))) 10 (.p (.int .i64 t.args.length))) 11 (.p (.bool false)),sT s,23,none⟩) (fun i s=>s=t :: (t.args.take i).flatMap Term.pre)
    (fun i a s ha hi hs=>by
      have hm:=List.mem_of_getElem? ha
      have hac:=Term.counts_mem hm
      have h2:=flatMap_take_le Term.pre_len t.args (i+1)
      rw [take_flatMap ha] at h2
      have hsl:(s++a.pre).length≤1000001:=by rw [hs,List.cons_append,List.length_cons];omega
      rw [List.length_append] at hsl
      have hr:=ih a hm (by omega)
      have hlt:((i:Int)<t.args.length)=True:=by simpa using hi
      have hap:=v_append (σ:=sT s) (b:=0) (n:=s.length) (e:=5) (es:=5) (bytes:=64) (rows:=s.map Term.row) (new:=a.pre.map Term.row) rfl (by simp) (.inl rfl) (by simp only [List.length_map];omega)
      refine ⟨by rw [hs,take_flatMap ha];rfl,?_⟩
      simp only [B0_r24_Preorder]
      simp (disch:=omega) only [eqY,↓gc_len,seval,-List.reduceReplicate,reduceCtorEq,allP,hlt,List.length_map,v_iadr (map_get (f:=Term.row) ha) a.row_len,q_r24_Preorder,hr,src_p (wide_rows _),hap,List.length_append,List.map_append,e_Pre,sT]) (fun s hs=>by
      simp only [B0_r24_Preorder]
      simp (disch:=omega) only [eqY,↓gc_len,seval,-List.reduceReplicate,reduceCtorEq,allP,Int.lt_irrefl,List.length_map]) (fun i s=>rfl) [t] (by simp) _ (fold_app Term.pre t.args 0 [t])
  have h':loopAt P L0_r24_Preorder [(1,.p (.ptr t.row 0)),(3,.sl 0 1),(4,.p (.int .i64 0))] [.pv 5 [t.row] false] 23 none=_:=h
  have e:[t]++t.args.flatMap Term.pre=t.pre:=by rw [Term.pre_eq,Term.pres_eq];rfl
  rw [e] at h'
  (rw [r_r24_Preorder (lbY rfl),F_r24_Preorder];simp (disch:=omega) only [eqY,↓gc_len,seval,-List.reduceReplicate,reduceCtorEq,allP,k0_r24_Preorder,h',List.length_map])
theorem s_r24_Postorder (t:Term):t.count≤1000000→R P f_r24_Postorder [.agg t.row]=some (.lst (t.post.map Term.row)):=by
  induction t using Term.ind with
  | h t ih=>
  intro hc
  have hlen:=Term.counts_len t.args
  have hct:=Term.count_eq t
  have h:=loop_fold (P:=P) (nt:=26) (rd:=none) (lv:=[1,3,4]) (b:=B0_r24_Postorder) (x:=0) (as:=t.args) (fun i (s:List Term)=>e_Pre t s i) sT (fun i s a=>s++a.post)
    (fun s=>⟨upd (upd (upd (upd (upd (tm (e_Pre t s t.args.length)) 6 (.p (.int .i64 t.args.length))) 7 (.p (.ptr t.row 4))) 8 (.p (.lst (t.args.map Term.row)))) 9 (.p (.int .i64 t.args.length))) 10 (.p (.bool false)),sT s,26,none⟩) (fun i s=>s=(t.args.take i).flatMap Term.post)
    (fun i a s ha hi hs=>by
      have hm:=List.mem_of_getElem? ha
      have hac:=Term.counts_mem hm
      have h2:=flatMap_take_le Term.post_len t.args (i+1)
      rw [take_flatMap ha] at h2
      have hsl:(s++a.post).length≤1000001:=by rw [hs];omega
      rw [List.length_append] at hsl
      have hr:=ih a hm (by omega)
      have hlt:((i:Int)<t.args.length)=True:=by simpa using hi
      have hap:=v_append (σ:=sT s) (b:=0) (n:=s.length) (e:=5) (es:=5) (bytes:=64) (rows:=s.map Term.row) (new:=a.post.map Term.row) rfl (by simp) (.inl rfl) (by simp only [List.length_map];omega)
      refine ⟨by rw [hs,take_flatMap ha],?_⟩
      simp only [B0_r24_Postorder]
      simp (disch:=omega) only [eqY,↓gc_len,seval,-List.reduceReplicate,reduceCtorEq,allP,hlt,List.length_map,v_iadr (map_get (f:=Term.row) ha) a.row_len,q_r24_Postorder,hr,src_p (wide_rows _),hap,List.length_append,List.map_append,e_Pre,sT]) (fun s hs=>by
      simp only [B0_r24_Postorder]
      simp (disch:=omega) only [eqY,↓gc_len,seval,-List.reduceReplicate,reduceCtorEq,allP,Int.lt_irrefl,List.length_map]) (fun i s=>rfl) [] (by simp) _ (fold_app Term.post t.args 0 [])
  have h':loopAt P L0_r24_Postorder [(1,.p (.ptr t.row 0)),(3,.sl 0 0),(4,.p (.int .i64 0))] [.pv 5 [] false] 26 none=_:=h
  have e:[]++t.args.flatMap Term.post=Term.posts t.args:=by rw [Term.posts_eq];rfl
  rw [e] at h'
  have hpl:=Term.post_len t
  rw [Term.post_eq,List.length_append] at hpl
  have hap:=v_append (σ:=[.pv 5 ((Term.posts t.args).map Term.row) false,.pv 5 [t.row] false]) (b:=0) (n:=(Term.posts t.args).length) (e:=5) (es:=5) (bytes:=64) (rows:=(Term.posts t.args).map Term.row) (new:=[t.row]) rfl (by simp) (.inl rfl) (by simp only [List.length_cons,List.length_nil];omega)
  (rw [r_r24_Postorder (lbY rfl),F_r24_Postorder];simp (disch:=omega) only [eqY,↓gc_len,seval,-List.reduceReplicate,reduceCtorEq,allP,k0_r24_Postorder,h',List.length_map,hap,List.length_append])
  rw [Term.post_eq,List.map_append]
  rfl
theorem fold_snoc {α β:Type} (g:α→β):∀ (l:List α) (i:Nat) (s:List β),foldE (T:=Empty) (fun _ s a=>.inl (s++[g a])) i s l=.inl (s++l.map g)
  | [],i,s=>by simp [foldE]
  | a :: l,i,s=>by simp only [foldE];rw [fold_snoc g l];simp
def esOf {α:Type} (n:Nat) (s:List α):Nat:=if s.isEmpty then 0 else n
theorem esOf_or {α:Type} (n:Nat) (s:List α) {β:Type} (f:α→β):esOf n s=n∨(esOf n s=0∧s.map f=[]):=by cases s<;>simp [esOf]
theorem esOf_snoc {α:Type} (n:Nat) (s:List α) (a:α):esOf n (s++[a])=n:=by simp [esOf]
abbrev e_wid (l:List Term) (s:List Int) (i:Int):List (Nat×AV):=[(3,.sl 0 s.length),(6,.p (.lst (l.map Term.row))),(7,.p (.int .i64 l.length)),(8,.p (.int .i64 i))]
abbrev sI (s:List Int):Store:=[.pv (esOf 1 s) (s.map irow) false]
theorem s_pattern_widths (l:List Term) (hl:l.length≤1000000):R P f_pattern_widths [.lst (l.map Term.row)]=some (.lst ((l.map Term.w).map irow)):=by
  have h:=loop_fold (P:=P) (nt:=19) (rd:=none) (lv:=[3,6,7,8]) (b:=B0_pattern_widths) (x:=0) (as:=l) (fun i (s:List Int)=>e_wid l s i) sI (fun i s a=>s++[a.w])
    (fun s=>⟨upd (tm (e_wid l s l.length)) 9 (.p (.bool false)),sI s,19,none⟩) (fun i s=>s.length=i)
    (fun i a s ha hi hs=>by
      have hlt:((i:Int)<l.length)=True:=by simpa using hi
      have hap:=v_append (σ:=[.pv (esOf 1 s) (s.map irow) false,.pv 1 [[.int .i64 a.w]] false]) (b:=0) (n:=s.length) (e:=esOf 1 s) (es:=1) (bytes:=8) (rows:=s.map irow) (new:=[[.int .i64 a.w]]) rfl (by simp) (esOf_or _ _ _) (by simp only [List.length_cons,List.length_nil];omega)
      refine ⟨by simp [hs],?_⟩
      simp only [B0_pattern_widths]
      simp (disch:=omega) only [eqY,↓gc_len,seval,-List.reduceReplicate,reduceCtorEq,allP,hlt,List.length_map,v_iadr (map_get (f:=Term.row) ha) a.row_len,hap,List.length_append,List.map_append,e_wid,sI,esOf_snoc,irow]) (fun s hs=>by
      simp only [B0_pattern_widths]
      simp (disch:=omega) only [eqY,↓gc_len,seval,-List.reduceReplicate,reduceCtorEq,allP,Int.lt_irrefl,List.length_map]) (fun i s=>rfl) [] (by simp) _ (fold_snoc Term.w l 0 [])
  have h':loopAt P L0_pattern_widths [(3,.sl 0 0),(6,.p (.lst (l.map Term.row))),(7,.p (.int .i64 l.length)),(8,.p (.int .i64 0))] [.pv 0 [] false] 19 none=_:=h
  (rw [r_pattern_widths (lbY rfl),F_pattern_widths];simp (disch:=omega) only [eqY,↓gc_len,seval,-List.reduceReplicate,reduceCtorEq,allP,k0_pattern_widths,h',List.length_map])
abbrev e_widR (t:Term) (s:List Int) (i:Int):List (Nat×AV):=[(1,.p (.ptr t.row 0)),(3,.sl 0 s.length),(4,.p (.int .i64 i))]
abbrev sI1 (s:List Int):Store:=[.pv 1 (s.map irow) false]
theorem s_r24_widths (t:Term) (hl:t.args.length≤1000000):R P f_r24_widths [.agg t.row]=some (.lst ((t.args.map Term.w).map irow)):=by
  have h:=loop_fold (P:=P) (nt:=23) (rd:=none) (lv:=[1,3,4]) (b:=B0_r24_widths) (x:=0) (as:=t.args) (fun i (s:List Int)=>e_widR t s i) sI1 (fun i s a=>s++[a.w])
    (fun s=>⟨upd (upd (upd (upd (upd (tm (e_widR t s t.args.length)) 6 (.p (.int .i64 t.args.length))) 7 (.p (.ptr t.row 4))) 8 (.p (.lst (t.args.map Term.row)))) 9 (.p (.int .i64 t.args.length))) 10 (.p (.bool false)),sI1 s,23,none⟩) (fun i s=>s.length=i)
    (fun i a s ha hi hs=>by
      have hlt:((i:Int)<t.args.length)=True:=by simpa using hi
      have hap:=v_append (σ:=[.pv 1 (s.map irow) false,.pv 1 [[.int .i64 a.w]] false]) (b:=0) (n:=s.length) (e:=1) (es:=1) (bytes:=8) (rows:=s.map irow) (new:=[[.int .i64 a.w]]) rfl (by simp) (.inl rfl) (by simp only [List.length_cons,List.length_nil];omega)
      refine ⟨by simp [hs],?_⟩
      simp only [B0_r24_widths]
      simp (disch:=omega) only [eqY,↓gc_len,seval,-List.reduceReplicate,reduceCtorEq,allP,hlt,List.length_map,v_iadr (map_get (f:=Term.row) ha) a.row_len,hap,List.length_append,List.map_append,e_widR,sI1,irow]) (fun s hs=>by
      simp only [B0_r24_widths]
      simp (disch:=omega) only [eqY,↓gc_len,seval,-List.reduceReplicate,reduceCtorEq,allP,Int.lt_irrefl,List.length_map]) (fun i s=>rfl) [] (by simp) _ (fold_snoc Term.w t.args 0 [])
  have h':loopAt P L0_r24_widths [(1,.p (.ptr t.row 0)),(3,.sl 0 0),(4,.p (.int .i64 0))] [.pv 1 [] false] 23 none=_:=h
  (rw [r_r24_widths (lbY rfl),F_r24_widths];simp (disch:=omega) only [eqY,↓gc_len,seval,-List.reduceReplicate,reduceCtorEq,allP,k0_r24_widths,h',List.length_map])
end S
end Go.AE
