import Derived.Test.YtiinicliedpmjaaGreatD3
import Derived.Test.YtiinicliedpmjaaGreatC0
import Derived.Test.YtiinicliedpmjaaGreatC2
namespace Go.AE
namespace Term
end Term
namespace S
open Go Go.AE
set_option linter.unusedSimpArgs false
set_option linter.unusedVariables false
variable {τ:Tm} {σ:Store} {rd:Option Nat}
end S
end Go.AE
namespace Go.AE.S
open Go Go.AE
set_option linter.unusedSimpArgs false
set_option linter.unusedVariables false
variable {τ:Tm} {σ:Store} {rd:Option Nat}
theorem bsl_3 {a b c:Term}:bsliceV σ 5 3 (fillP (List.replicate 3 [.p (.int .i64 0),.p (.int .i64 0),.p (.int .u64 0),.p (.str (bs [])),.nils]).flatten [(0,5,.p (.agg a.row)),(5,5,.p (.agg b.row)),(10,5,.p (.agg c.row))])=some (.sl σ.length 3,σ++[.pv 5 [a.row,b.row,c.row] false]):=by rw [Term.row_eq a,Term.row_eq b,Term.row_eq c];rfl
abbrev e_rat (p:List Int) (i:Int):List (Nat×AV):=[(1,.p (.lst (p.map irow))),(2,.ptr 0 1 0 0),(4,.ptr 2 1 0 0),(6,.p (.int .i64 i))]
abbrev sRat (t:Term):Store:=[.pv 5 [t.row] false,.pv 0 [] false,.av 5 [z5 1] false]
def outRat (r:Ex×St):Prop:=r.1=.ret∧r.2.τ.get 4=.ptr 2 1 0 0∧r.2.τ.get 5=.p (.bool false)∧∃ o0 o1 b,r.2.σ=[o0,o1,.av 5 [z5 b] false,.pv 0 [] false]∧b=3
set_option maxHeartbeats 4000000 in
theorem s_r06_At (t:Term) (p:List Int) (hpl:p.length≤1000000):R P f_r06_At [.agg t.row,.lst (p.map irow)]=some (.tup (tupA (t.atP p))):=by
  have h:=loop_to (P:=P) (nt:=38) (lv:=[1,2,4,6]) (b:=B0_r06_At) (rd:=none) (as:=p) (fun i (_:Term)=>e_rat p i) sRat stepA (fun _=>outRat) (fun _ s=>True)
    (fun k i s hi hk hs=>by
      have hlt:((k:Int)<p.length)=True:=by simpa using hk
      have hpi:=fun σ=>v_iadr (k:=.i64) (es:=1) (σ:=σ) (map_get (f:=irow) hi) rfl
      simp only [irow] at hpi
      unfold stepA
      by_cases h1:0≤i
      · obtain ⟨j,rfl⟩:=Int.eq_ofNat_of_zero_le h1
        have h1':((j:Int)<0)=False:=by simp
        simp only [h1,if_true,Int.toNat_natCast]
        cases ha:s.args[j]? with
        | none=>
          have hl:((s.args.length:Int)≤j)=True:=by
            have:=List.getElem?_eq_none_iff.1 ha
            simp;omega
          refine ⟨fun s' he=>(by cases he),?_⟩
          simp only [B0_r06_At]
          simp (disch:=omega) only [eqZ,↓gc_len,seval,-List.reduceReplicate,reduceCtorEq,allP,hlt,hpi,h1',hl,ldT_4,stT_T,List.length_map,e_rat,sRat,z5,outRat]
          exact ⟨_,_,_,rfl,rfl⟩
        | some a=>
          have hl:((s.args.length:Int)≤j)=False:=by
            have:=(List.getElem?_eq_some_iff.1 ha).1
            simp;omega
          have hsi:=fun σ=>v_iadr (k:=.i64) (es:=5) (σ:=σ) (map_get (f:=Term.row) ha) a.row_len
          refine ⟨fun s' he=>trivial,?_⟩
          simp only [B0_r06_At]
          simp (disch:=omega) only [eqZ,↓gc_len,seval,-List.reduceReplicate,reduceCtorEq,allP,hlt,hpi,h1',hl,ldT_4,stT_T,hsi,List.length_map,e_rat,sRat,z5]
      · have h1':(i<0)=True:=by simp;omega
        simp only [h1,if_false]
        refine ⟨fun s' he=>(by cases he),?_⟩
        simp only [B0_r06_At]
        simp (disch:=omega) only [eqZ,↓gc_len,seval,-List.reduceReplicate,reduceCtorEq,allP,hlt,hpi,h1',List.length_map,e_rat,sRat,z5,outRat]
        exact ⟨_,_,_,rfl,rfl⟩) (fun i s=>rfl) t trivial
  rw [fold_atP] at h
  cases hp:t.atP p with
  | none=>
    rw [hp] at h
    obtain ⟨⟨e,τ',σ',nt',rd'⟩,h1,h2,h3,h4,o0,o1,b,h5,rfl⟩:=h
    simp only at h2 h3 h4 h5
    subst h2;subst h5
    have h':loopAt P L0_r06_At (e_rat p 0) [.pv 5 [t.row] false,.pv 0 [] false,.av 5 [z5 1] false] 38 none=_:=h1
    simp only [z5] at h'
    (rw [r_r06_At (lbY rfl),F_r06_At];simp (disch:=omega) only [eqZ,↓gc_len,seval,-List.reduceReplicate,reduceCtorEq,allP,List.length_map,k0_r06_At,h',h3,h4,z5])
    simp [tupA,zT_row]
  | some x=>
    rw [hp] at h
    obtain ⟨hk,h1⟩:=h
    have h':loopAt P L0_r06_At (e_rat p 0) [.pv 5 [t.row] false,.pv 0 [] false,.av 5 [z5 1] false] 38 none=_:=h1
    simp only [z5] at h'
    (rw [r_r06_At (lbY rfl),F_r06_At];simp (disch:=omega) only [eqZ,↓gc_len,seval,-List.reduceReplicate,reduceCtorEq,allP,List.length_map,k0_r06_At,h',B0_r06_At,Int.lt_irrefl,e_rat,sRat,z5])
    simp [tupA]
theorem build_5s {a b c d e:AV} {k0 k1 k2:IntKind} {q0 q1 q2:Int} {q3:ByteArray} {bb m:Nat}:buildV [a,b,c,d,e] [(0,1,.p (.int k0 q0)),(1,1,.p (.int k1 q1)),(2,1,.p (.int k2 q2)),(3,1,.p (.str q3)),(4,1,.sl bb m)]=some (mkAgg [.p (.int k0 q0),.p (.int k1 q1),.p (.int k2 q2),.p (.str q3),.sl bb m]):=rfl
set_option maxHeartbeats 4000000 in
theorem s_r06_Put (u:Term):∀ (p:List Int) (t:Term),t.count≤1000000→p.length≤1000000→R P f_r06_Put [.agg t.row,.lst (p.map irow),.agg u.row]=some (.tup (tupA (t.putP u p)))
  | [],t,hc,hpl=>by
    (rw [r_r06_Put (lbY rfl),F_r06_Put];simp (disch:=omega) only [eqZ,↓gc_len,seval,-List.reduceReplicate,reduceCtorEq,allP,z5])
    simp [tupA,Term.putP]
  | i :: r,t,hc,hpl=>by
    have hz:(((r.length+1:Nat):Int)=0)=False:=by simp;omega
    have hpi:∀ σ,iadrSV σ 1 (.p (.lst (irow i :: r.map irow))) (.p (.int .i64 0))=some (.p (.ptr (irow i) 0)):=fun σ=>v_iadr (k:=.i64) (es:=1) (σ:=σ) (i:=0) (rows:=irow i :: r.map irow) (r:=irow i) rfl rfl
    have hso:=slc_one (i:=i) (r:=r)
    simp only [irow] at hpi hso
    by_cases h0:0≤i
    · obtain ⟨j,rfl⟩:=Int.eq_ofNat_of_zero_le h0
      have h1':((j:Int)<0)=False:=by simp
      cases ha:t.args[j]? with
      | none=>
        have hl:((t.args.length:Int)≤j)=True:=by
          have:=List.getElem?_eq_none_iff.1 ha
          simp;omega
        have hn:t.putP u ((j:Int) :: r)=none:=by
          simp only [Term.putP,Int.toNat_natCast,ha]
          rw [if_pos h0]
        rw [hn]
        (rw [r_r06_Put (lbY rfl),F_r06_Put];simp (disch:=omega) only [eqZ,↓gc_len,seval,-List.reduceReplicate,reduceCtorEq,allP,irow,List.map_cons,List.length_cons,List.length_map,hz,hpi,h1',hl,ldT_4,z5])
        simp [tupA,zT_row]
      | some a=>
        have hl:((t.args.length:Int)≤j)=False:=by
          have:=(List.getElem?_eq_some_iff.1 ha).1
          simp;omega
        have hac:=Term.counts_mem (List.mem_of_getElem? ha)
        have hct:=Term.count_eq t
        have hlen:=Term.counts_len t.args
        have hj:=(List.getElem?_eq_some_iff.1 ha).1
        have hr:=s_r06_Put u r a (by omega) (by simp at hpl;omega)
        have hsi:=fun σ=>v_iadr (k:=.i64) (es:=5) (σ:=σ) (map_get (f:=Term.row) ha) a.row_len
        cases hv:a.putP u r with
        | none=>
          rw [hv] at hr
          have hn:t.putP u ((j:Int) :: r)=none:=by
            simp only [Term.putP,Int.toNat_natCast,ha,hv]
            rw [if_pos h0]
          rw [hn]
          simp only [tupA] at hr
          (rw [r_r06_Put (lbY rfl),F_r06_Put];simp (disch:=omega) only [eqZ,↓gc_len,seval,-List.reduceReplicate,reduceCtorEq,allP,irow,List.map_cons,List.length_cons,List.length_map,hz,hpi,h1',hl,ldT_4,hso,hsi,q_r06_Put,hr,z5])
          simp [tupA,zT_row]
        | some v=>
          rw [hv] at hr
          have hn:t.putP u ((j:Int) :: r)=some (.mk t.op t.w t.v t.name (t.args.set j v)):=by
            simp only [Term.putP,Int.toNat_natCast,ha,hv]
            rw [if_pos h0]
          rw [hn]
          simp only [tupA] at hr
          have hw5:wide 5 (t.args.map Term.row)=true:=by simp [wide,Term.row_len]
          have hsrc:=fun (σ:Store)=>src_p (σ:=σ) hw5
          have hap:=fun (o0 o1 o2 o3:Obj)=>v_append (σ:=[o0,o1,o2,o3,.pv 0 [] false]) (b:=4) (n:=0) (e:=0) (es:=5) (bytes:=64) (rows:=[]) (new:=t.args.map Term.row) rfl rfl (.inr ⟨rfl,rfl⟩) (by simp;omega)
          simp only [List.nil_append,List.length_map,Nat.zero_add] at hap
          have hia:=fun (o0 o1 o2 o3:Obj)=>ia_sl (σ:=[o0,o1,o2,o3,.pv 5 (t.args.map Term.row) false]) (b:=4) (m:=t.args.length) (j:=j) rfl (by simp) hj rfl
          have hst:=fun (σ:Store)=>stR_T (v:=v) (σ:=σ) (b:=4) (m:=t.args.length) (e:=5) (j:=j) (rows:=t.args.map Term.row) (by simp) (fun x hx=>by obtain ⟨y,_,rfl⟩:=List.mem_map.1 hx;exact y.row_len) hj
          (rw [r_r06_Put (lbY rfl),F_r06_Put];simp (disch:=omega) only [eqZ,↓gc_len,seval,-List.reduceReplicate,reduceCtorEq,allP,irow,List.map_cons,List.length_cons,List.length_map,hz,hpi,h1',hl,ldT_4,hso,hsi,q_r06_Put,hr,hsrc,hap,hia,hst,build_5s,z5])
          simp [tupA,zT_row]
          rw [Term.row_eq (Term.mk t.op t.w t.v t.name (t.args.set j v)),← List.map_set]
          rfl
    · have h1':(i<0)=True:=by simp;omega
      have hn:t.putP u (i :: r)=none:=by
        simp only [Term.putP]
        rw [if_neg h0]
      rw [hn]
      (rw [r_r06_Put (lbY rfl),F_r06_Put];simp (disch:=omega) only [eqZ,↓gc_len,seval,-List.reduceReplicate,reduceCtorEq,allP,irow,List.map_cons,List.length_cons,List.length_map,hz,hpi,h1',ldT_4,z5])
      simp [tupA,zT_row]
end Go.AE.S
namespace Go.AE
namespace Term
theorem counts_set:∀ (l:List Term) (j:Nat) (a v:Term),l[j]? = some a→counts (l.set j v)+a.count=counts l+v.count
  | [],j,a,v,h=>by simp at h
  | x :: l,0,a,v,h=>by simp at h;subst h;simp only [List.set_cons_zero,counts];omega
  | x :: l,j+1,a,v,h=>by
    simp only [List.getElem?_cons_succ] at h
    have:=counts_set l j a v h
    simp only [List.set_cons_succ,counts];omega
theorem putP_some {u:Term} {i:Int} {r:List Int} {t c:Term} (h:t.putP u (i :: r)=some c):∃ (j:Nat) (a v:Term),i=j∧t.args[j]? = some a∧a.putP u r=some v∧c=.mk t.op t.w t.v t.name (t.args.set j v):=by
  simp only [putP] at h
  split at h
  · rename_i h0
    obtain ⟨j,rfl⟩:=Int.eq_ofNat_of_zero_le h0
    simp only [Int.toNat_natCast] at h
    split at h
    · rename_i a ha
      split at h
      · rename_i v hv
        injection h with h
        exact ⟨j,a,v,rfl,ha,hv,h.symm⟩
      · cases h
    · cases h
  · cases h
theorem atP_of {r:List Int} {t a:Term} {j:Nat} (ha:t.args[j]? = some a):t.atP ((j:Int) :: r)=a.atP r:=by
  simp only [atP,Int.toNat_natCast,ha]
  rw [if_pos (Int.natCast_nonneg j)]
theorem putP_count {u:Term}:∀ {p:List Int} {t c:Term},t.putP u p=some c→c.count≤t.count+u.count
  | [],t,c,h=>by simp only [putP,Option.some.injEq] at h;subst h;omega
  | i :: r,t,c,h=>by
    obtain ⟨j,a,v,rfl,ha,hv,rfl⟩:=putP_some h
    have h1:=putP_count hv
    have h2:=counts_set t.args j a v ha
    have h3:=count_eq t
    have h4:=count_eq (.mk t.op t.w t.v t.name (t.args.set j v))
    have h5:(Term.mk t.op t.w t.v t.name (t.args.set j v)).args=t.args.set j v:=rfl
    rw [h5] at h4
    omega
end Term
namespace S
open Go Go.AE
set_option linter.unusedSimpArgs false
set_option linter.unusedVariables false
variable {τ:Tm} {σ:Store} {rd:Option Nat}
theorem atP_TOk:∀ {p:List Int} {t x:Term},TOk t→t.atP p=some x→TOk x
  | [],t,x,ht,h=>by simp only [Term.atP,Option.some.injEq] at h;subst h;exact ht
  | i :: r,t,x,ht,h=>by
    simp only [Term.atP] at h
    split at h
    · split at h
      · rename_i a ha
        exact atP_TOk (ht.args (List.mem_of_getElem? ha)) h
      · cases h
    · cases h
theorem putP_TOk {u:Term} (hu:TOk u):∀ {p:List Int} {t c:Term},TOk t→t.putP u p=some c→TOk c
  | [],t,c,ht,h=>by simp only [Term.putP,Option.some.injEq] at h;subst h;exact hu
  | i :: r,t,c,ht,h=>by
    obtain ⟨j,a,v,rfl,ha,hv,rfl⟩:=Term.putP_some h
    have h1:=putP_TOk hu (ht.args (List.mem_of_getElem? ha)) hv
    refine .mk _ ht.op ht.w ht.v ht.name (by show (t.args.set j v).length≤_;rw [List.length_set];exact ht.len) ?_
    intro y hy
    rcases List.mem_or_eq_of_mem_set hy with h2 | rfl
    · exact ht.args h2
    · exact h1
theorem bsl_2t {a b:Term}:bsliceV σ 5 2 (fillP (List.replicate 2 [.p (.int .i64 0),.p (.int .i64 0),.p (.int .u64 0),.p (.str (bs [])),.nils]).flatten [(0,5,.p (.agg a.row)),(5,5,.p (.agg b.row))])=some (.sl σ.length 2,σ++[.pv 5 [a.row,b.row] false]):=by rw [Term.row_eq a,Term.row_eq b];rfl
theorem blist_2t {a b:Term}:blistV σ 5 2 (fillP (List.replicate 2 [.p (.int .i64 0),.p (.int .i64 0),.p (.int .u64 0),.p (.str (bs [])),.nils]).flatten [(0,5,.p (.agg a.row)),(5,5,.p (.agg b.row))])=some (.p (.lst [a.row,b.row]),σ):=by rw [Term.row_eq a,Term.row_eq b];rfl
end S
end Go.AE
namespace Go.AE.S
open Go Go.AE
set_option linter.unusedSimpArgs false
set_option linter.unusedVariables false
variable {τ:Tm} {σ:Store} {rd:Option Nat}
theorem bu_e {z0 z1:AV} {s:ByteArray} {n:Int}:buildV [z0,z1] [(0,1,.p (.str s)),(1,1,.p (.int .u64 n))]=some (.p (.agg [.str s,.int .u64 n])):=rfl
end Go.AE.S
