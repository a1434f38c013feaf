import Derived.Test.YtiinicliedpmjaaGreatE0
import Derived.Test.YtiinicliedpmjaaGreatD8
namespace Go.AE.S
open Go Go.AE
set_option linter.unusedSimpArgs false
set_option linter.unusedVariables false
variable {τ:Tm} {σ:Store} {rd:Option Nat}
theorem loop_relE {P:Prog} {nt:Nat} {α:Type} {lv:List Nat} {b:K} {as:List α} (I:Nat→List (Nat×AV)→Store→Prop) (out:Ex×St→Prop)
    (hstep:∀ (i:Nat) (a:α) (e:List (Nat×AV)) (σ:Store),as[i]? = some a→i<as.length→I i e σ→(∃ e' σ',headOf lv σ.length (exec P b ⟨tm e,σ,nt,rd⟩)=some (.inl (e',σ',nt,rd))∧I (i+1) e' σ')∨(∃ r,headOf lv σ.length (exec P b ⟨tm e,σ,nt,rd⟩)=some (.inr r)∧out r))
    (hkeep:∀ i e σ,I i e σ→(tm e).kept lv=e) (e0:List (Nat×AV)) (σ0:Store) (h0:I 0 e0 σ0) :
    (∃ e σ,I as.length e σ∧loopAt P (.loop lv b) e0 σ0 nt rd=back P lv b σ.length (exec P b ⟨tm e,σ,nt,rd⟩))∨(∃ r,loopAt P (.loop lv b) e0 σ0 nt rd=some r∧out r):=by
  have key:∀ (r:List α) (i:Nat) (e:List (Nat×AV)) (σ:Store),as.drop i=r→i≤as.length→I i e σ →
      (∃ e' σ',I as.length e' σ'∧loopAt P (.loop lv b) e σ nt rd=back P lv b σ'.length (exec P b ⟨tm e',σ',nt,rd⟩))∨(∃ r,loopAt P (.loop lv b) e σ nt rd=some r∧out r):=by
    intro r
    induction r with
    | nil=>
      intro i e σ hd hi hI
      have:i=as.length:=by have:=congrArg List.length hd;simp at this;omega
      subst this
      refine .inl ⟨e,σ,hI,?_⟩
      unfold loopAt
      rw [loop_go,hkeep _ _ _ hI]
    | cons a r ih=>
      intro i e σ hd hi hI
      have hlt:i<as.length:=by
        have:=congrArg List.length hd
        simp at this
        omega
      have ha:as[i]? = some a:=by
        have:=congrArg (·[0]?) hd
        simpa using this
      have hr:as.drop (i+1)=r:=by
        have:=congrArg (List.drop 1) hd
        simpa using this
      rcases hstep i a e σ ha hlt hI with ⟨e1,σ1,h1,h2⟩ | ⟨q,h1,h2⟩
      · rcases ih (i+1) e1 σ1 hr (by omega) h2 with ⟨e2,σ2,k1,k2⟩ | ⟨q,k1,k2⟩
        · refine .inl ⟨e2,σ2,k1,?_⟩
          unfold loopAt
          rw [loop_go,hkeep _ _ _ hI,back_head,h1]
          exact k2
        · refine .inr ⟨q,?_,k2⟩
          unfold loopAt
          rw [loop_go,hkeep _ _ _ hI,back_head,h1]
          exact k1
      · refine .inr ⟨q,?_,h2⟩
        unfold loopAt
        rw [loop_go,hkeep _ _ _ hI,back_head,h1]
        rfl
  exact key as 0 e0 σ0 rfl (Nat.zero_le _) h0
def insC (s:List V2) (v:V2):Option (List V2):=match s[posN v.name s]? with
  | some a=>if a.name=v.name then (if a.w=v.w then some s else none) else some (s.take (posN v.name s)++[v]++s.drop (posN v.name s))
  | none=>some (s.take (posN v.name s)++[v]++s.drop (posN v.name s))
def mrgV:List V2→List V2→Option (List V2)
  | s,[]=>some s
  | s,v :: r=>(insC s v).bind fun a=>mrgV a r
theorem mrgV_app:∀ (a b s:List V2),mrgV s (a++b)=(mrgV s a).bind fun x=>mrgV x b
  | [],b,s=>rfl
  | v :: a,b,s=>by
    show (insC s v).bind (fun x=>mrgV x (a++b))=((insC s v).bind fun x=>mrgV x a).bind fun x=>mrgV x b
    cases insC s v with
    | none=>rfl
    | some x=>exact mrgV_app a b x
theorem insC_len {s a:List V2} {v:V2} (h:insC s v=some a):a.length≤s.length+1:=by
  have hp:=posN_le v.name s
  have hl:(s.take (posN v.name s)++[v]++s.drop (posN v.name s)).length≤s.length+1:=by simp;omega
  unfold insC at h
  split at h
  · split at h
    · split at h
      · cases h;omega
      · cases h
    · cases h;exact hl
  · cases h;exact hl
theorem mrgV_len:∀ {l s a:List V2},mrgV s l=some a→a.length≤s.length+l.length
  | [],s,a,h=>by cases h;simp
  | v :: l,s,a,h=>by
    unfold mrgV at h
    cases hi:insC s v with
    | none=>rw [hi] at h;cases h
    | some x=>
      rw [hi] at h
      have h1:=insC_len hi
      have h2:=mrgV_len (l:=l) (s:=x) h
      simp only [List.length_cons]
      omega
abbrev e_sc (T:List Term) (x:AV) (i:Int) (O:List V2) (k at':Int):List (Nat×AV):=[(0,.p (.lst (T.map Term.row))),(4,x),(5,.p (.int .i64 i)),(6,.p (.lst (O.map vrow))),(7,.p (.int .i64 k)),(8,.p (.int .i64 at'))]
def outSc (T:List Term) (x:AV) (i:Int) (O:List V2) (k:Int) (σ:Store) (n:Nat) (r:Ex×St):Prop:=∃ τ',r=(.exit 4,⟨τ',σ,92,none⟩)∧τ'.get 0=.p (.lst (T.map Term.row))∧τ'.get 4=x∧τ'.get 5=.p (.int .i64 i)∧τ'.get 6=.p (.lst (O.map vrow))∧τ'.get 7=.p (.int .i64 k)∧τ'.get 8=.p (.int .i64 n)
set_option maxHeartbeats 4000000 in
theorem l2_all (T:List Term) (i:Int) (x:AV) (σ:Store) (l:List V2) (h:OutOk x σ l) (O:List V2) (k:Nat) (u:V2) (hu:O[k]? = some u) (hll:l.length≤1000000000) :
    ∃ τ',loopAt P L2_r11_all (e_sc T x i O k 0) σ 92 none=some (.exit 4,⟨τ',σ,92,none⟩)∧τ'.get 0=.p (.lst (T.map Term.row))∧τ'.get 4=x∧τ'.get 5=.p (.int .i64 i)∧τ'.get 6=.p (.lst (O.map vrow))∧τ'.get 7=.p (.int .i64 k)∧τ'.get 8=.p (.int .i64 (posN u.name l)):=by
  have hlen:=out_len h
  have hui:=fun σ=>v_iadr (k:=.i64) (es:=2) (σ:=σ) (map_get (f:=vrow) hu) (vr_len u)
  have hl:=loop_to (P:=P) (nt:=92) (lv:=[0,4,5,6,7,8]) (b:=B2_r11_all) (rd:=none) (as:=l) (fun j (_:Unit)=>e_sc T x i O k j) (fun _=>σ) (fun j _ v=>if slt v.name u.name=true then .inl () else .inr j) (fun (j:Nat)=>outSc T x i O k σ j) (fun _ _=>True)
    (fun j v s hv hk hs=>by
      refine ⟨fun _ _=>trivial,?_⟩
      have hlt:((j:Int)<l.length)=True:=by simpa using hk
      obtain ⟨A,hA,A',hA',hL⟩:=out_at h hv
      rcases Classical.propComplete (slt v.name u.name=true) with h1 | h1
      · have h2:slt v.name u.name=true:=of_eq_true h1
        simp only [B2_r11_all,h2,if_true]
        simp (disch:=omega) only [eqZ,↓gc_len,seval,-List.reduceReplicate,reduceCtorEq,allP,hlen,hlt,hA,hA',hL,hui,vr_f0,vr_g0,h2,e_sc]
      · have h2:slt v.name u.name=false:=by simpa using of_eq_false h1
        simp only [B2_r11_all,h2]
        simp (disch:=omega) only [eqZ,↓gc_len,seval,-List.reduceReplicate,reduceCtorEq,allP,hlen,hlt,hA,hA',hL,hui,vr_f0,vr_g0,h2,e_sc,outSc]
        exact ⟨_,rfl,rfl,rfl,rfl,rfl,rfl,rfl⟩) (fun i s=>rfl) () trivial
  rw [fold_sr] at hl
  by_cases hp:posN u.name l<l.length
  · rw [if_pos hp] at hl
    obtain ⟨r,h1,τ',rfl,h3,h4,h5,h6,h7,h8⟩:=hl
    refine ⟨τ',h1,h3,h4,h5,h6,h7,?_⟩
    rw [h8,Nat.zero_add]
  · rw [if_neg hp] at hl
    obtain ⟨_,h1⟩:=hl
    have he:=posN_end hp
    have h':loopAt P L2_r11_all (e_sc T x i O k 0) σ 92 none=_:=h1
    rw [h']
    simp only [B2_r11_all]
    simp (disch:=omega) only [eqZ,↓gc_len,seval,-List.reduceReplicate,reduceCtorEq,allP,hlen,e_sc,Int.lt_irrefl]
    exact ⟨_,rfl,rfl,rfl,rfl,rfl,rfl,by rw [he];rfl⟩
abbrev e_l1 (T:List Term) (x:AV) (i:Int) (O:List V2) (k:Int):List (Nat×AV):=[(0,.p (.lst (T.map Term.row))),(4,x),(5,.p (.int .i64 i)),(6,.p (.lst (O.map vrow))),(7,.p (.int .i64 k))]
def I1 (T:List Term) (i:Int) (O s0:List V2) (k:Nat) (e:List (Nat×AV)) (σ:Store):Prop:=∃ x acc,e=e_l1 T x i O k∧mrgV s0 (O.take k)=some acc∧OutOk x σ acc
def outF (r:Ex×St):Prop:=r.1=.ret∧r.2.τ.get 2=.nils∧r.2.τ.get 3=.p (.bool false)
theorem out_w {x:AV} {l:List V2} (h:OutOk x σ l) {i:Nat} {v:V2} (hi:l[i]? = some v):∃ A,iadrSV σ 2 x (.p (.int .i64 i))=some A∧∃ A',fadrV 1 A=some A'∧loadV σ 1 false A'=some (.p (.int .i64 v.w)):=by
  have hl:=(List.getElem?_eq_some_iff.1 hi).1
  rcases h with ⟨rfl,rfl⟩ | ⟨b,fr,rfl,h⟩
  · simp at hl
  · refine ⟨.ptr b l.length i 0,?_,.ptr b l.length i 1,rfl,?_⟩
    · unfold iadrSV
      simp [natOf,svec,h,AE.Obj.dims,hl]
    · simp only [loadV,h,List.length_map,if_true,List.getElem?_map,hi]
      rfl
theorem bsl_vr {u:V2}:bsliceV σ 2 1 (fillP (List.replicate 1 [.p (.str (bs [])),.p (.int .i64 0)]).flatten [(0,2,.p (.agg (vrow u)))])=some (.sl σ.length 1,σ++[.pv 2 [vrow u] false]):=rfl
set_option maxHeartbeats 16000000 in
theorem l1_all (T:List Term) (i:Int) (x0:AV) (σ0:Store) (s0:List V2) (hx0:OutOk x0 σ0 s0) (O:List V2) (hs:s0.length+O.length≤1000000000) :
    (∃ e σ,I1 T i O s0 O.length e σ∧loopAt P L1_r11_all (e_l1 T x0 i O 0) σ0 92 none=back P [0,4,5,6,7] B1_r11_all σ.length (exec P B1_r11_all ⟨tm e,σ,92,none⟩))∨(∃ r,loopAt P L1_r11_all (e_l1 T x0 i O 0) σ0 92 none=some r∧outF r∧mrgV s0 O=none):=by
  have key:=loop_relE (P:=P) (nt:=92) (rd:=none) (lv:=[0,4,5,6,7]) (b:=B1_r11_all) (as:=O) (I1 T i O s0) (fun r=>outF r∧mrgV s0 O=none) (fun k u e σ hu hk hI=>?_) (fun k e σ hI=>?_) (e_l1 T x0 i O 0) σ0 ⟨x0,s0,rfl,rfl,hx0⟩
  · exact key
  · obtain ⟨x,l,rfl,hm,hx⟩:=hI
    have hnext:mrgV s0 (O.take (k+1))=(insC l u):=by
      rw [List.take_add_one,hu,mrgV_app,hm]
      show (insC l u).bind (fun a=>some a)=insC l u
      cases insC l u<;>rfl
    have hnone:insC l u=none→mrgV s0 O=none:=fun h=>by
      rw [← List.take_append_drop (k+1) O,mrgV_app,hnext,h]
      rfl
    have hll:=mrgV_len hm
    rw [List.length_take] at hll
    have hl6:l.length≤1000000000:=by omega
    have hlt:((k:Int)<O.length)=True:=by simpa using hk
    have hui:=fun σ=>v_iadr (k:=.i64) (es:=2) (σ:=σ) (map_get (f:=vrow) hu) (vr_len u)
    obtain ⟨τ',hL,g0,g4,g5,g6,g7,g8⟩:=l2_all T i x σ l hx O k u hu hl6
    simp only [e_sc] at hL
    have hlen:=out_len hx
    have hple:=posN_le u.name l
    by_cases hit:hitN u.name l=true
    · unfold hitN at hit
      cases hg:l[posN u.name l]? with
      | none=>rw [hg] at hit;cases hit
      | some a=>
        rw [hg] at hit
        have hname:a.name=u.name:=of_decide_eq_true hit
        obtain ⟨A,hA,A',hA',hl'⟩:=out_at hx hg
        obtain ⟨B,hB,B',hB',hw'⟩:=out_w hx hg
        rw [hA] at hB
        cases hB
        have hpl:(((posN u.name l:Nat):Int)<l.length)=True:=by
          have:=(List.getElem?_eq_some_iff.1 hg).1
          simpa using this
        have hins:insC l u=if a.w=u.w then some l else none:=by
          unfold insC
          rw [hg]
          simp only
          rw [if_pos hname]
        rcases Classical.propComplete (a.w=u.w) with c | c
        · left
          rw [hins,if_pos (of_eq_true c)] at hnext
          refine ⟨e_l1 T x i O (k+1:Nat),σ,?_,x,l,rfl,hnext,hx⟩
          simp only [B1_r11_all]
          simp (disch:=omega) only [eqZ,↓gc_len,seval,-List.reduceReplicate,reduceCtorEq,allP,hlt,hui,List.length_map,vr_f0,vr_g0,vr_f1,vr_g1,k2_r11_all,hL,g0,g4,g5,g6,g7,g8,hlen,hpl,hA,hA',hl',hname,hB',hw',c,e_l1]
        · right
          rw [if_neg (of_eq_false c)] at hins
          have key2:∃ r,headOf [0,4,5,6,7] σ.length (exec P B1_r11_all ⟨tm (e_l1 T x i O k),σ,92,none⟩)=some (.inr r)∧outF r:=by
            simp only [B1_r11_all]
            simp (disch:=omega) only [eqZ,↓gc_len,seval,-List.reduceReplicate,reduceCtorEq,allP,hlt,hui,List.length_map,vr_f0,vr_g0,vr_f1,vr_g1,k2_r11_all,hL,g0,g4,g5,g6,g7,g8,hlen,hpl,hA,hA',hl',hname,hB',hw',c,e_l1]
            exact ⟨_,rfl,rfl,rfl,rfl⟩
          obtain ⟨r,h1,h2⟩:=key2
          exact ⟨r,h1,h2,hnone hins⟩
    · left
      have hins:insC l u=some (l.take (posN u.name l)++[u]++l.drop (posN u.name l)):=by
        unfold insC
        unfold hitN at hit
        cases hg:l[posN u.name l]? with
        | none=>rfl
        | some a=>
          rw [hg] at hit
          simp only
          rw [if_neg (by simpa using hit)]
      rw [hins] at hnext
      generalize hkp:posN u.name l=p at *
      have hx1:OutOk x (σ++[.pv 0 [] false]) l:=out_app hx
      obtain ⟨σ2,f2,n2,o2,c2⟩:=out_frz hx1
      have hne:∀ b n,x=.sl b n→σ.length≠b:=fun b n e=>by have:=out_lt hx e;omega
      have q2:σ2[σ.length]? = some (.pv 0 [] false):=by rw [c2 _ hne];simp
      obtain ⟨σ3,f3,n3,q3,c3⟩:=app_v (new:=(l.take p).map vrow) (n:=0) q2 rfl (.inr ⟨rfl,rfl⟩) (by simp;omega)
      have n3':σ3.length=σ.length+1:=by rw [n3,n2];simp
      have o3:OutOk x σ3 l:=by
        rcases o2 with h | ⟨b,fr,rfl,h⟩
        · exact .inl h
        · exact .inr ⟨b,fr,rfl,by rw [c3 b (fun e=>hne b _ rfl e.symm)];exact h⟩
      have q3':(σ3++[.pv 2 [vrow u] false])[σ.length]? = some (.pv 2 ((l.take p).map vrow) false):=by
        rw [List.getElem?_append_left (by omega),q3]
        simp
      obtain ⟨σ4,f4,n4,q4,c4⟩:=app_v (new:=[vrow u]) q3' (n:=p) (by simp;omega) (.inl rfl) (by simp;omega)
      have o4:OutOk x σ4 l:=by
        rcases out_app (o:=.pv 2 [vrow u] false) o3 with h | ⟨b,fr,rfl,h⟩
        · exact .inl h
        · exact .inr ⟨b,fr,rfl,by rw [c4 b (fun e=>hne b _ rfl e.symm)];exact h⟩
      obtain ⟨σ5,f5,n5,o5,c5⟩:=out_frz o4
      have q5:σ5[σ.length]? = some (.pv 2 ((l.take p).map vrow++[vrow u]) false):=by rw [c5 _ hne];exact q4
      obtain ⟨σ6,f6,n6,q6,c6⟩:=app_v (new:=(l.drop p).map vrow) q5 (n:=p+1) (by simp;omega) (.inl rfl) (by simp;omega)
      have n6':σ.length<σ6.length:=by rw [n6,n5,n4,List.length_append];omega
      have s3:=src_last (σ:=σ3) (es:=2) (m:=1) (rows:=[vrow u]) (fr:=false) rfl
      have t3:=src_p (σ:=σ2) (wide_v (l.take p))
      have t6:=src_p (σ:=σ5) (wide_v (l.drop p))
      have b1:=slc_take l p hple
      have b2:=slc_drop l p hple
      have e3:0+((l.take p).map vrow).length=p:=by simp;omega
      have e4:p+[vrow u].length=p+1:=rfl
      have e6:p+1+((l.drop p).map vrow).length=(l.take p++[u]++l.drop p).length:=by simp;omega
      rw [e3] at f3
      rw [e4] at f4
      rw [e6] at f6
      refine ⟨e_l1 T (.sl σ.length (l.take p++[u]++l.drop p).length) i O (k+1:Nat),σ6,?_,_,_,rfl,hnext,.inr ⟨_,false,rfl,?_⟩⟩
      · have gch:gc σ.length [.p (.lst (T.map Term.row)),.sl σ.length (l.take p++[u]++l.drop p).length,.p (.int .i64 i),.p (.lst (O.map vrow)),.p (.int .i64 ((k+1:Nat):Int))] σ6=σ6:=by
          unfold gc
          rw [if_neg (by omega),if_neg]
          simp [gcOk,below]
        cases hg:l[p]? with
        | none=>
          have hpl:((p:Int)<l.length)=False:=by
            have:=List.getElem?_eq_none_iff.1 hg
            simp;omega
          simp only [B1_r11_all]
          simp (disch:=omega) only [eqZ,↓gc_len,seval,-List.reduceReplicate,reduceCtorEq,allP,hlt,hui,List.length_map,vr_f0,vr_g0,vr_ld,k2_r11_all,hL,g0,g4,g5,g6,g7,g8,hlen,hpl,f2,b1,t3,f3,bsl_vr,s3,f4,f5,b2,t6,f6,gch,e_l1]
        | some a=>
          have hname:(a.name=u.name)=False:=by
            unfold hitN at hit
            rw [hkp,hg] at hit
            simpa using hit
          obtain ⟨A,hA,A',hA',hl'⟩:=out_at hx hg
          have hpl:((p:Int)<l.length)=True:=by
            have:=(List.getElem?_eq_some_iff.1 hg).1
            simpa using this
          simp only [B1_r11_all]
          simp (disch:=omega) only [eqZ,↓gc_len,seval,-List.reduceReplicate,reduceCtorEq,allP,hlt,hui,List.length_map,vr_f0,vr_g0,vr_ld,k2_r11_all,hL,g0,g4,g5,g6,g7,g8,hlen,hpl,hA,hA',hl',hname,f2,b1,t3,f3,bsl_vr,s3,f4,f5,b2,t6,f6,gch,e_l1]
      · rw [q6]
        simp
  · obtain ⟨x,acc,rfl,_,_⟩:=hI
    rfl
def argK (vs:List V2) (k:Nat):List AV:=[.p (.int .i64 (k:Int)),.p (.fn f_exhaust_assignments_1_1 [.ptr [.int .i64 (k:Int)] 0,.ptr [.lst (vs.map vrow)] 0])]
def asgF (l:Nat) (vs:List V2) (s:Store) (k:Nat):Store ⊕ Store:=match round P l (argK vs k) s with
  | some (.p (.bool true),s')=>.inl s'
  | some (.p (.bool false),s')=>.inr s'
  | _=>.inl s
theorem fold_asg (l:Nat) (vs:List V2):∀ (ks:List Nat) (i:Nat) (s:Store) (b:Bool) (s':Store),rounds P l (ks.map (argK vs)) s=some (b,s')→foldE (fun _ s k=>asgF l vs s k) i s ks=if b=true then .inl s' else .inr s'
  | [],i,s,b,s',h=>by
    simp only [List.map_nil,rounds,Option.some.injEq,Prod.mk.injEq] at h
    obtain ⟨rfl,rfl⟩:=h
    rfl
  | k :: ks,i,s,b,s',h=>by
    rw [List.map_cons] at h
    obtain ⟨c,σ1,h1,h2,h3,h4⟩:=rounds_cons h
    rw [foldE]
    cases c with
    | true=>
      have:asgF l vs s k=.inl σ1:=by unfold asgF;rw [h1]
      rw [this]
      exact fold_asg l vs ks (i+1) σ1 b s' (h3 rfl)
    | false=>
      have:asgF l vs s k=.inr σ1:=by unfold asgF;rw [h1]
      obtain ⟨rfl,rfl⟩:=h4 rfl
      rw [this]
      rfl
abbrev e_ag (l:Nat) (vs:List V2) (m:Nat) (k:Int):List (Nat×AV):=[(0,.yield l),(2,.p (.ptr [.lst (vs.map vrow)] 0)),(7,.p (.int .i64 (m:Int))),(8,.p (.int .i64 k))]
def outAg (s:Store) (r:Ex×St):Prop:=r.1=.ret∧r.2.σ=s
set_option maxHeartbeats 8000000 in
theorem c_assign1 (l:Nat) (vs:List V2) (n:Nat) (hn:n≤16) (σ σ':Store) (b:Bool) (h:rounds P l ((List.range (2^n)).map (argK vs)) σ=some (b,σ')) :
    call P F_exhaust_assignments_1 [.yield l,.p (.ptr [.int .i64 (n:Int)] 0),.p (.ptr [.lst (vs.map vrow)] 0)] σ=some (.p (.tup []),σ'):=by
  have hp:(2:Nat)^n≤65536:=Nat.pow_le_pow_right (show 0<2 by omega) hn
  have hfo:=fold_asg l vs (List.range (2^n)) 0 σ b σ' h
  have hlp:=loop_to (P:=P) (nt:=18) (lv:=[0,2,7,8]) (b:=B0_exhaust_assignments_1) (rd:=none) (as:=List.range (2^n)) (fun i (_:Store)=>e_ag l vs (2^n) i) (fun s=>s) (fun _ s k=>asgF l vs s k) outAg (fun i s=>s.length=σ.length∧∃ b s',rounds P l (((List.range (2^n)).drop i).map (argK vs)) s=some (b,s'))
    (fun i k s hk hi hs=>by
      obtain ⟨hsl,b2,s2,hs⟩:=hs
      rw [List.length_range] at hi
      have hki:k=i:=by
        rw [List.getElem?_range hi] at hk
        exact (Option.some.inj hk).symm
      subst hki
      have hlt:((k:Int)<((2^n:Nat):Int))=True:=by simp only [eq_iff_iff,iff_true];exact Int.ofNat_lt.2 hi
      have hd:(List.range (2^n)).drop k=k :: (List.range (2^n)).drop (k+1):=by
        rw [List.drop_eq_getElem_cons (by simpa using hi)]
        simp
      rw [hd,List.map_cons] at hs
      obtain ⟨c,σ1,h1,h2,h3,h4⟩:=rounds_cons hs
      have h1':callV P (.yield l) (argK vs k) s=some (.p (.bool c),σ1):=by rw [callV.eq_def];exact h1
      have gc2:∀ v,gc s.length v σ1=σ1:=fun v=>gc_same' (by omega)
      have hwr:IntKind.i64.wrap ((k:Int)+1)=((k+1:Nat):Int):=IntWalk.i64_in _ (by omega)
      simp only [argK] at h1'
      cases c with
      | true=>
        have hf:asgF l vs s k=.inl σ1:=by unfold asgF;rw [h1]
        refine ⟨fun s' he=>?_,?_⟩
        · rw [hf] at he
          cases he
          exact ⟨by omega,_,_,h3 rfl⟩
        · rw [hf]
          simp only [B0_exhaust_assignments_1]
          simp (disch:=omega) only [eqZ,↓gc_len,seval,-List.reduceReplicate,reduceCtorEq,allP,hlt,mkFn,h1',gc2,hwr,e_ag]
      | false=>
        have hf:asgF l vs s k=.inr σ1:=by unfold asgF;rw [h1]
        refine ⟨fun s' he=>?_,?_⟩
        · rw [hf] at he
          cases he
        · rw [hf]
          simp only [B0_exhaust_assignments_1]
          simp (disch:=omega) only [eqZ,↓gc_len,seval,-List.reduceReplicate,reduceCtorEq,allP,hlt,mkFn,h1',gc2,hwr,e_ag,outAg]) (fun i s=>rfl) σ ⟨rfl,b,σ',by rw [List.drop_zero];exact h⟩
  rw [hfo] at hlp
  have hl3:=rounds_len _ _ _ _ h
  have gc3:∀ vs,gc σ.length vs σ'=σ':=fun vs=>gc_same' (by omega)
  have hsh:=shl_i (b:=n) hn
  cases b with
  | true=>
    rw [if_pos rfl] at hlp
    obtain ⟨_,hlp⟩:=hlp
    rw [List.length_range] at hlp
    have h':loopAt P L0_exhaust_assignments_1 [(0,.yield l),(2,.p (.ptr [.lst (vs.map vrow)] 0)),(7,.p (.int .i64 ((2^n:Nat):Int))),(8,.p (.int .i64 0))] σ 18 none=_:=hlp
    (rw [call_go (lbY rfl),F_exhaust_assignments_1];simp (disch:=omega) only [eqZ,↓gc_len,seval,-List.reduceReplicate,reduceCtorEq,allP,hsh,k0_exhaust_assignments_1,h',B0_exhaust_assignments_1,Int.lt_irrefl,gc3])
  | false=>
    rw [if_neg (by simp)] at hlp
    obtain ⟨⟨e,τ',σ2,nt',rd'⟩,g1,g2,g3⟩:=hlp
    simp only at g2 g3
    subst g2;subst g3
    have h':loopAt P L0_exhaust_assignments_1 [(0,.yield l),(2,.p (.ptr [.lst (vs.map vrow)] 0)),(7,.p (.int .i64 ((2^n:Nat):Int))),(8,.p (.int .i64 0))] σ 18 none=_:=g1
    (rw [call_go (lbY rfl),F_exhaust_assignments_1];simp (disch:=omega) only [eqZ,↓gc_len,seval,-List.reduceReplicate,reduceCtorEq,allP,hsh,k0_exhaust_assignments_1,h',gc3])
abbrev e_en (l:List V2) (s:List Bd×Nat) (i:Int):List (Nat×AV):=[(3,.sl 0 s.1.length),(4,.p (.int .u64 (s.2:Int))),(9,.p (.lst (l.map vrow))),(10,.p (.int .i64 l.length)),(11,.p (.int .i64 i))]
theorem mask16 {w n:Nat} (h:w≤16):n &&& (2^w-1)=n % 2^w:=Nat.and_two_pow_sub_one_eq_mod n w
set_option maxHeartbeats 8000000 in
theorem s_env (l:List V2) (hw:∀ v∈l,1≤v.w∧v.w≤16) (hl:l.length≤40) (n:Nat) (hn:n<65536):R P f_exhaust_assignments_1_1 [.ptr [.int .i64 (n:Int)] 0,.ptr [.lst (l.map vrow)] 0]=some (.lst ((assignT n l).map brow)):=by
  obtain ⟨_,h⟩:=loop_run (P:=P) (nt:=33) (lv:=[3,4,9,10,11]) (b:=B0_exhaust_assignments_1_1) (rd:=none) (as:=l) (fun i (s:List Bd×Nat)=>e_en l s i) sAs (fun _ s v=>asF s v) (fun i s=>s.1.length=i∧W s.2)
    (fun i v s hv hi hs=>by
      obtain ⟨s,n⟩:=s
      obtain ⟨hs1,hs2⟩:=hs
      simp only at hs1 hs2
      have hlt:((i:Int)<l.length)=True:=by simpa using hi
      have hx:=fun σ=>v_iadr (k:=.i64) (es:=2) (σ:=σ) (map_get (f:=vrow) hv) (vr_len v)
      obtain ⟨w1,w2⟩:=hw v (List.mem_of_getElem? hv)
      have hwn:((v.w.toNat:Nat):Int)=v.w:=Int.toNat_of_nonneg (by omega)
      have hw16:v.w.toNat≤16:=by omega
      have hp:(2:Nat)^v.w.toNat≤65536:=Nat.pow_le_pow_right (show 0<2 by omega) hw16
      have hpos:0<(2:Nat)^v.w.toNat:=Nat.pow_pos (by omega)
      have hcw:cw v.w=v.w.toNat:=by rw [← hwn,cw_nat (by omega)];omega
      have hshr:=n_shr (k:=.i64) (a:=n) (n:=v.w.toNat) (by omega)
      rw [hwn] at hshr
      have hshl:=n_shl (k:=.i64) (a:=1) (n:=v.w.toNat) (by omega)
      rw [hwn,Nat.one_mul,Nat.mod_eq_of_lt (by omega)] at hshl
      have hshl':arithV .shl (.p (.int .u64 1)) (.p (.int .i64 v.w))=some (.p (.int .u64 ((2^v.w.toNat:Nat):Int))):=hshl
      have hsub:IntKind.u64.wrap (((2^v.w.toNat:Nat):Int)-1)=((2^v.w.toNat-1:Nat):Int):=by rw [IntWalk.u64_in _ (by omega)];omega
      have hand:=n_and (a:=n) (b:=2^v.w.toNat-1) hs2 (by omega)
      rw [mask16 hw16] at hand
      have hap:=v_append (σ:=sAs (s,n)++[.pv 2 [[.str v.name,.int .u64 ((n % 2^cw v.w:Nat):Int)]] false]) (b:=0) (n:=s.length) (e:=esOf 2 s) (es:=2) (bytes:=24) (rows:=s.map brow) (new:=[[.str v.name,.int .u64 ((n % 2^cw v.w:Nat):Int)]]) rfl (by simp) (esOf_or _ _ _) (by simp only [List.length_cons,List.length_nil];omega)
      simp only [sAs,List.cons_append,List.nil_append] at hap
      rw [hcw] at hap
      refine ⟨⟨by simp [asF,hs1],Nat.lt_of_le_of_lt (Nat.div_le_self _ _) hs2⟩,?_⟩
      simp only [B0_exhaust_assignments_1_1,asF,hcw]
      simp (disch:=omega) only [eqZ,↓gc_len,seval,-List.reduceReplicate,reduceCtorEq,allP,hlt,hx,List.length_map,vr_ld,v_cel,v_ini,vr_f0,vr_g0,vr_f1,vr_g1,hshl',hsub,hand,bu_e,bsl_b1,src_11,hap,hshr,List.map_append,List.length_append,esOf_snoc,brow,e_en,sAs]) (fun i s=>rfl) ([],n) ⟨rfl,by show n<_;omega⟩ _ (foldE_foldl asF l 0 ([],n))
  have hA:=asF_all l [] n
  rw [List.nil_append] at hA
  generalize l.foldl asF ([],n)=z at *
  obtain ⟨z1,z2⟩:=z
  simp only at hA
  subst hA
  have h':loopAt P L0_exhaust_assignments_1_1 [(3,.sl 0 0),(4,.p (.int .u64 (n:Int))),(9,.p (.lst (l.map vrow))),(10,.p (.int .i64 l.length)),(11,.p (.int .i64 0))] [.pv 0 [] false] 33 none=_:=h
  have hcv:IntKind.u64.wrap (n:Int)=n:=IntWalk.u64_in _ (by omega)
  (rw [r_exhaust_assignments_1_1 (lbY rfl),F_exhaust_assignments_1_1];simp (disch:=omega) only [eqZ,↓gc_len,seval,-List.reduceReplicate,reduceCtorEq,allP,hcv,k0_exhaust_assignments_1_1,h',B0_exhaust_assignments_1_1,Int.lt_irrefl,List.length_map,e_en,sAs])
theorem ldo_i {s:Int}:ldO 1 0 0 1 false (some (.pv 1 [[.int .i64 s]] false))=some (.p (.int .i64 s)):=rfl
theorem sto_i {s t:Int}:stO [.pv 1 [[.int .i64 s]] false] 0 1 0 0 [.p (.int .i64 t)] (some (.pv 1 [[.int .i64 s]] false))=some [.pv 1 [[.int .i64 t]] false]:=rfl
theorem pur_as {s:Int} {x:PV}:purify [.pv 1 [[.int .i64 s]] false] 12 (.fn f_exhaust_assignments_1 [.ptr 0 1 0 0,.p x])=some (.fn f_exhaust_assignments_1 [.ptr [.int .i64 s] 0,x]):=by simp [purify,omap]
abbrev e_as1 (l:List V2) (i:Int):List (Nat×AV):=[(1,.p (.ptr [.lst (l.map vrow)] 0)),(3,.ptr 0 1 0 0),(6,.p (.lst (l.map vrow))),(7,.p (.int .i64 l.length)),(8,.p (.int .i64 i))]
theorem fold_sumW:∀ (l:List V2) (i:Nat) (s:Int),foldE (T:=Empty) (fun _ s (v:V2)=>.inl (s+v.w)) i s l=.inl (s+sumW l)
  | [],i,s=>by simp [foldE,sumW]
  | v :: l,i,s=>by
    rw [foldE]
    simp only
    rw [fold_sumW l (i+1),sumW,Int.add_assoc]
set_option maxHeartbeats 8000000 in
theorem s_assignments (l:List V2) (hw:∀ v∈l,okV2 v) (hl:l.length≤1000000000):R P f_exhaust_assignments [.lst (l.map vrow)]=some (.fn f_exhaust_assignments_1 [.ptr [.int .i64 (sumW l)] 0,.ptr [.lst (l.map vrow)] 0]):=by
  obtain ⟨_,h⟩:=loop_run (P:=P) (nt:=18) (lv:=[1,3,6,7,8]) (b:=B0_exhaust_assignments) (rd:=none) (as:=l) (fun i (_:Int)=>e_as1 l i) (fun s=>[.pv 1 [[.int .i64 s]] false]) (fun _ s v=>s+v.w) (fun i s=>0≤s∧s≤i*64)
    (fun i v s hv hi hs=>by
      obtain ⟨s0,s1⟩:=hs
      have hlt:((i:Int)<l.length)=True:=by simpa using hi
      have hx:=fun σ=>v_iadr (k:=.i64) (es:=2) (σ:=σ) (map_get (f:=vrow) hv) (vr_len v)
      have hok:=hw v (List.mem_of_getElem? hv)
      unfold okV2 at hok
      have hwr:IntKind.i64.wrap (s+v.w)=s+v.w:=IntWalk.i64_in _ (by omega)
      refine ⟨⟨by omega,by omega⟩,?_⟩
      simp only [B0_exhaust_assignments]
      simp (disch:=omega) only [eqZ,↓gc_len,seval,-List.reduceReplicate,reduceCtorEq,allP,hlt,hx,List.length_map,vr_ld,v_cel,v_ini,vr_f1,vr_g1,hwr,st_i,ld_b1,ldo_i,sto_i,e_as1]) (fun i s=>rfl) 0 ⟨by omega,by omega⟩ _ (fold_sumW l 0 0)
  rw [Int.zero_add] at h
  have h':loopAt P L0_exhaust_assignments [(1,.p (.ptr [.lst (l.map vrow)] 0)),(3,.ptr 0 1 0 0),(6,.p (.lst (l.map vrow))),(7,.p (.int .i64 l.length)),(8,.p (.int .i64 0))] [.pv 1 [[.int .i64 0]] false] 18 none=_:=h
  (rw [r_exhaust_assignments (lbY rfl),F_exhaust_assignments];simp (disch:=omega) only [eqZ,↓gc_len,seval,-List.reduceReplicate,reduceCtorEq,allP,k0_exhaust_assignments,h',B0_exhaust_assignments,Int.lt_irrefl,List.length_map,init_n1,mkFn,pur_as])
abbrev e_l0 (T:List Term) (x:AV) (i:Int):List (Nat×AV):=[(0,.p (.lst (T.map Term.row))),(4,x),(5,.p (.int .i64 i))]
def I0 (T:List Term) (i:Nat) (e:List (Nat×AV)) (σ:Store):Prop:=∃ x acc,e=e_l0 T x i∧mrgV [] (allVs (T.take i))=some acc∧OutOk x σ acc
theorem allVs_app (a b:List Term):allVs (a++b)=allVs a++allVs b:=by simp [allVs]
theorem out_gc {x:AV} {l:List V2} {n:Nat} {vs:List AV} (h:OutOk x σ l) (hx:x∈vs):OutOk x (gc n vs σ) l:=by
  unfold gc
  split
  · exact h
  · split
    · rename_i hg
      rcases h with h | ⟨b,fr,rfl,h⟩
      · exact .inl h
      · refine .inr ⟨b,fr,rfl,?_⟩
        simp only [gcOk,Bool.and_eq_true,List.all_eq_true] at hg
        have hb:=hg.1 _ hx
        simp only [below,decide_eq_true_eq] at hb
        rw [List.getElem?_take_of_lt hb]
        exact h
    · exact h
set_option maxHeartbeats 8000000 in
theorem l0_all (T:List Term) (ht:∀ t∈T,t.count≤1000000) (hl:T.length≤100) :
    (∃ e σ,I0 T T.length e σ∧loopAt P L0_r11_all (e_l0 T .nils 0) [] 92 none=back P [0,4,5] B0_r11_all σ.length (exec P B0_r11_all ⟨tm e,σ,92,none⟩))∨(∃ r,loopAt P L0_r11_all (e_l0 T .nils 0) [] 92 none=some r∧outF r∧mrgV [] (allVs T)=none):=by
  have key:=loop_relE (P:=P) (nt:=92) (rd:=none) (lv:=[0,4,5]) (b:=B0_r11_all) (as:=T) (I0 T) (fun r=>outF r∧mrgV [] (allVs T)=none) (fun i u e σ hu hk hI=>?_) (fun i e σ hI=>?_) (e_l0 T .nils 0) [] ⟨.nils,[],rfl,rfl,.inl ⟨rfl,rfl⟩⟩
  · exact key
  · obtain ⟨x,l,rfl,hm,hx⟩:=hI
    have hnext:mrgV [] (allVs (T.take (i+1)))=mrgV l (varsT u):=by
      rw [List.take_add_one,hu,allVs_app,mrgV_app,hm]
      show mrgV l (varsT u++[])=_
      rw [List.append_nil]
    have hnone:mrgV l (varsT u)=none→mrgV [] (allVs T)=none:=fun h=>by
      rw [← List.take_append_drop (i+1) T,allVs_app,mrgV_app,hnext,h]
      rfl
    have hll:=mrgV_len hm
    have hta:=allVs_len (l:=T.take i) 1000000 (fun t h=>ht t (List.mem_of_mem_take h))
    have htl:(T.take i).length≤100:=by rw [List.length_take];omega
    have hml:(T.take i).length*1000000≤100*1000000:=Nat.mul_le_mul_right _ htl
    rw [List.length_nil,Nat.zero_add] at hll
    have hc:=ht u (List.mem_of_getElem? hu)
    have hvl:=vars_len u
    have hlt:((i:Int)<T.length)=True:=by simpa using hk
    have hui:=fun σ=>v_iadr (k:=.i64) (es:=5) (σ:=σ) (map_get (f:=Term.row) hu) u.row_len
    have hV:=s_r06_Vars u hc
    have h1:=l1_all T i x σ l hx (varsT u) (by omega)
    simp only [e_l1] at h1
    rcases h1 with ⟨e1,σ1,⟨x1,acc1,rfl,hm1,hx1⟩,h1⟩ | ⟨r,h1,h2,h3⟩
    · left
      rw [List.take_length] at hm1
      refine ⟨e_l0 T x1 (i+1:Nat),gc σ.length [.p (.lst (T.map Term.row)),x1,.p (.int .i64 ((i+1:Nat):Int))] σ1,?_,x1,acc1,rfl,hnext.trans hm1,?_⟩
      · simp only [B0_r11_all]
        simp only [e_l1] at h1
        simp (disch:=omega) only [eqZ,↓gc_len,seval,-List.reduceReplicate,reduceCtorEq,allP,hlt,hui,List.length_map,q_r06_Vars,hV,k1_r11_all,h1,B1_r11_all,Int.lt_irrefl,e_l0]
      · exact out_gc hx1 (by simp)
    · right
      obtain ⟨⟨e',τ',σ',nt',rd'⟩,g2⟩:∃ q,q=r:=⟨r,rfl⟩
      subst g2
      obtain ⟨g2,g3,g4⟩:=h2
      simp only at g2 g3 g4
      subst g2
      have key2:∃ r,headOf [0,4,5] σ.length (exec P B0_r11_all ⟨tm (e_l0 T x i),σ,92,none⟩)=some (.inr r)∧outF r:=by
        simp only [B0_r11_all]
        simp (disch:=omega) only [eqZ,↓gc_len,seval,-List.reduceReplicate,reduceCtorEq,allP,hlt,hui,List.length_map,q_r06_Vars,hV,k1_r11_all,h1,e_l0]
        exact ⟨_,rfl,rfl,g3,g4⟩
      obtain ⟨r,k1,k2⟩:=key2
      exact ⟨r,k1,k2,hnone h3⟩
  · obtain ⟨x,acc,rfl,_,_⟩:=hI
    rfl
def mrgP (l:List Term):List PV:=match mrgV [] (allVs l) with
  | some a=>[.lst (a.map vrow),.bool true]
  | none=>[.lst [],.bool false]
set_option maxHeartbeats 8000000 in
theorem s_r11_all (l:List Term) (ht:∀ t∈l,t.count≤1000000) (hl:l.length≤100):R P f_r11_all [.lst (l.map Term.row)]=some (.tup (mrgP l)):=by
  rcases l0_all l ht hl with ⟨e,σ,⟨x,acc,rfl,hm,hx⟩,h0⟩ | ⟨⟨e',τ',σ',nt',rd'⟩,h0,⟨g2,g3,g4⟩,hm⟩
  · rw [List.take_length] at hm
    unfold mrgP
    rw [hm]
    simp only
    have h0':loopAt P L0_r11_all [(0,.p (.lst (l.map Term.row))),(4,.nils),(5,.p (.int .i64 0))] [] 92 none=_:=h0
    have hP:=out_pur hx
    have hal:allP [x,.p (.bool true)]=none:=by
      rcases hx with ⟨_,rfl⟩ | ⟨b,fr,rfl,_⟩<;>rfl
    simp only [e_l0] at h0'
    (rw [r_r11_all (lbY rfl),F_r11_all];simp (disch:=omega) only [eqZ,↓gc_len,seval,-List.reduceReplicate,reduceCtorEq,allP,k0_r11_all,h0',B0_r11_all,Int.lt_irrefl,List.length_map])
    rw [hal]
    show purify σ 12 (.tup [x,.p (.bool true)])=_
    rw [purify_tup]
    simp only [omap,hP,purify_zero]
    rfl
  · unfold mrgP
    rw [hm]
    simp only at g2 g3 g4 ⊢
    subst g2
    have h0':loopAt P L0_r11_all [(0,.p (.lst (l.map Term.row))),(4,.nils),(5,.p (.int .i64 0))] [] 92 none=_:=h0
    (rw [r_r11_all (lbY rfl),F_r11_all];simp (disch:=omega) only [eqZ,↓gc_len,seval,-List.reduceReplicate,reduceCtorEq,allP,k0_r11_all,h0',g3,g4])
end Go.AE.S
