import Derived.Test.YtiinicliedpmjaaGreatE4
namespace Go.AE.S
open Go Go.AE
set_option linter.unusedSimpArgs false
set_option linter.unusedVariables false
theorem chkL_all:∀ {l:List Term},(∀ t∈l,checkT t=0)→chkL l=0
  | [],_=>rfl
  | a :: l,h=>by
    unfold chkL
    rw [h a (by simp)]
    simpa using chkL_all fun t ht=>h t (by simp [ht])
theorem varsX_congr {l m:List Term} (h:∀ v,(∃ t∈l,v∈varsT t)↔(∃ t∈m,v∈varsT t)) (hl:Sorted (varsX l)) (hm:Sorted (varsX m)):varsX l=varsX m :=
  sort_uniq hl hm fun x=>by rw [varsX_mem,varsX_mem];exact h x
theorem sumW_app:∀ (a b:List V2),sumW (a++b)=sumW a+sumW b
  | [],b=>by simp [sumW]
  | v :: a,b=>by
    rw [List.cons_append,sumW,sumW,sumW_app a b]
    omega
theorem sumW_sub:∀ (m l:List V2),m.Nodup→(∀ v∈m,v∈l)→(∀ v∈l,1≤v.w)→sumW m≤sumW l
  | [],l,_,_,hw=>by
    have:∀ l:List V2,(∀ v∈l,1≤v.w)→0≤sumW l:=fun l=>by
      induction l with
      | nil=>intro _;simp [sumW]
      | cons a l ih=>
        intro h
        have h1:=h a (by simp)
        have h2:=ih fun v hv=>h v (by simp [hv])
        rw [sumW];omega
    simpa [sumW] using this l hw
  | a :: m,l,hn,hs,hw=>by
    obtain ⟨l1,l2,rfl⟩:=List.append_of_mem (hs a (by simp))
    rw [List.nodup_cons] at hn
    have h:=sumW_sub m (l1++l2) hn.2 (fun v hv=>by
      have h1:=hs v (by simp [hv])
      rw [List.mem_append,List.mem_cons] at h1
      rw [List.mem_append]
      rcases h1 with h1 | h1 | h1
      · exact .inl h1
      · rw [h1] at hv;exact absurd hv hn.1
      · exact .inr h1) (fun v hv=>hw v (by
      rw [List.mem_append] at hv
      rw [List.mem_append,List.mem_cons]
      rcases hv with h | h
      · exact .inl h
      · exact .inr (.inr h)))
    rw [sumW_app] at h
    rw [sumW,sumW_app,sumW]
    omega
theorem strict_nodup {l:List V2} (h:StrictW l):l.Nodup:=h.imp fun {a b} hab e=>by rw [e,ltNW_irrefl] at hab;cases hab
theorem Good.sub {l m:List Term} (h:Good l) (hk:∀ t∈m,checkT t=0) (hs:∀ t∈m,∀ v∈varsT t,∃ u∈l,v∈varsT u):Good m:=by
  have hv:∀ v∈varsX m,v∈varsX l:=fun v hv=>by
    obtain ⟨t,ht,h1⟩:=varsX_mem.1 hv
    exact varsX_mem.2 (hs t ht v h1)
  refine ⟨chkL_all hk,?_,?_⟩
  · rintro ⟨x,hx,y,hy,h1⟩
    exact h.clash ⟨x,varsX_all.1 (hv x (varsX_all.2 hx)),y,varsX_all.1 (hv y (varsX_all.2 hy)),h1⟩
  · have h1:=sumW_sub (varsX m) (varsX l) (strict_nodup (varsX_strict m)) hv fun v hv=>(h.ok v hv).1
    have h2:=h.bits
    omega
theorem cw_w {w:Int} (h:1≤w∧w≤64):cw w=w.toNat:=by
  unfold cw clampW;omega
theorem look_head {n:ByteArray} {b:Bd} {r:List Bd} (h:b.name=n):lookB n (b :: r)=some b.v:=by unfold lookB;rw [if_pos h]
theorem look_tail {n:ByteArray} {b:Bd} {r:List Bd} (h:¬ b.name=n):lookB n (b :: r)=lookB n r:=by
  conv=>lhs;unfold lookB
  rw [if_neg h]
theorem sumW_pos:∀ {l:List V2},(∀ v∈l,okV2 v)→0≤sumW l
  | [],_=>by simp [sumW]
  | a :: l,h=>by
    have h1:=h a (by simp)
    unfold okV2 at h1
    have h2:=sumW_pos (l:=l) fun v hv=>h v (by simp [hv])
    rw [sumW];omega
theorem assign_surj (E:ByteArray→Nat):∀ (l:List V2),(∀ v∈l,okV2 v)→Sorted l→∃ k,k<2^(sumW l).toNat∧∀ v∈l,lookB v.name (assignT k l)=some (E v.name % 2^cw v.w)
  | [],_,_=>⟨0,by simp [sumW],by simp⟩
  | a :: l,h,hs=>by
    have h1:=h a (by simp)
    have hs':=List.pairwise_cons.1 hs
    obtain ⟨k,hk,hE⟩:=assign_surj E l (fun v hv=>h v (by simp [hv])) hs'.2
    have hp:=sumW_pos (l:=l) fun v hv=>h v (by simp [hv])
    have hc:=cw_w h1
    unfold okV2 at h1
    have he:(sumW (a :: l)).toNat=cw a.w+(sumW l).toNat:=by rw [sumW,hc];omega
    have hm:E a.name % 2^cw a.w<2^cw a.w:=Nat.mod_lt _ (Nat.two_pow_pos _)
    refine ⟨E a.name % 2^cw a.w+2^cw a.w*k,?_,?_⟩
    · rw [he,Nat.pow_add]
      have:2^cw a.w*(k+1)≤2^cw a.w*2^(sumW l).toNat:=Nat.mul_le_mul_left _ hk
      rw [Nat.mul_add,Nat.mul_one] at this
      omega
    · intro v hv
      unfold assignT
      rw [← hc,Nat.add_mul_mod_self_left,Nat.mod_mod,Nat.add_mul_div_left _ _ (Nat.two_pow_pos _),Nat.div_eq_of_lt hm,Nat.zero_add]
      rcases List.mem_cons.1 hv with rfl | hv
      · exact look_head rfl
      · have hne:=slt_ne (hs'.1 v hv)
        rw [look_tail hne]
        exact hE v hv
theorem Good.env {l:List Term} (h:Good l) (E:ByteArray→Nat):∃ k,k<2^bitsX l∧∀ t∈l,t.valT E=t.valT (envB (assignT k (varsX l))):=by
  obtain ⟨k,hk,hE⟩:=assign_surj E (varsX l) h.ok h.sorted
  refine ⟨k,hk,fun t ht=>val_env _ _ t fun u hu h1=>?_⟩
  obtain ⟨v,hv,hn⟩:=vars_of hu h1
  have hw:=vars_w (chkL_zero h.chk t ht) hu h1 hv hn
  have h2:=hE v (varsX_mem.2 ⟨t,ht,hv⟩)
  rw [hn,hw] at h2
  unfold envB
  rw [h2]
  simp
theorem valE_iff {hs:List Term} {a b:Term}:valE hs a b=0↔Good (eqW hs a b)∧a.w=b.w∧hs.any notOne=false:=by
  unfold valE
  constructor
  · intro h
    split at h
    · rename_i c;exact absurd h c
    · rename_i c
      refine ⟨good_of (by simpa using c),?_⟩
      split at h
      · assumption
      · cases h
  · rintro ⟨h1,h2⟩
    rw [if_neg (by simpa using good_err h1),if_pos h2]
theorem valX_R {hs:List Term} {a b:Term} (hE:valE hs a b=0):valX hs a b=(List.range (2^bitsX (eqW hs a b))).find? (fun k=>ceR hs a b (assignT k (varsX (eqW hs a b)))):=by
  unfold valX
  rw [if_pos hE]
  exact find_congr fun k hk=>ceR_X (valE_iff.1 hE).1 (List.mem_range.1 hk)
theorem ceR_val {hs:List Term} {a b:Term} (hg:Good (eqW hs a b)) (k:Nat):ceR hs a b (assignT k (varsX (eqW hs a b)))=true↔(∀ t∈hs,t.valT (envB (assignT k (varsX (eqW hs a b))))=1)∧a.valT (envB (assignT k (varsX (eqW hs a b))))≠b.valT (envB (assignT k (varsX (eqW hs a b)))):=by
  have ha:a∈eqW hs a b:=by simp [eqW]
  have hb:b∈eqW hs a b:=by simp [eqW]
  unfold ceR
  rw [Bool.and_eq_true,List.all_eq_true,Bool.not_eq_true',decide_eq_false_iff_not,valR_X hg ha,valR_X hg hb]
  refine and_congr ⟨fun h t ht=>?_,fun h t ht=>?_⟩ Iff.rfl
  · have:=of_decide_eq_true (h t ht)
    rwa [valR_X hg (by simp [eqW,ht])] at this
  · unfold isOneR
    rw [valR_X hg (by simp [eqW,ht])]
    exact decide_eq_true (h t ht)
theorem valB_iff {hs:List Term} {a b:Term} (hE:valE hs a b=0):valB hs a b=true↔∀ E,(∀ t∈hs,t.valT E=1)→a.valT E=b.valT E:=by
  have hg:=(valE_iff.1 hE).1
  have ha:a∈eqW hs a b:=by simp [eqW]
  have hb:b∈eqW hs a b:=by simp [eqW]
  unfold valB
  rw [decide_eq_true hE,Bool.true_and,Option.isNone_iff_eq_none,valX_R hE,List.find?_eq_none]
  constructor
  · intro h E hh
    obtain ⟨k,hk,hv⟩:=hg.env E
    have h1:=h k (List.mem_range.2 hk)
    rw [ceR_val hg] at h1
    rw [hv a ha,hv b hb]
    apply Classical.byContradiction
    intro hne
    exact h1 ⟨fun t ht=>by rw [← hv t (by simp [eqW,ht])];exact hh t ht,hne⟩
  · intro h k hk hc
    rw [ceR_val hg] at hc
    exact hc.2 (h _ hc.1)
theorem valX_some {hs:List Term} {a b:Term} {k:Nat} (h:valX hs a b=some k):valE hs a b=0∧k<2^bitsX (eqW hs a b)∧(∀ t∈hs,t.valT (envB (assignT k (varsX (eqW hs a b))))=1)∧a.valT (envB (assignT k (varsX (eqW hs a b))))≠b.valT (envB (assignT k (varsX (eqW hs a b)))):=by
  have hE:valE hs a b=0:=by
    unfold valX at h
    split at h
    · assumption
    · cases h
  rw [valX_R hE] at h
  have h1:=List.find?_some h
  have h2:=List.mem_range.1 (List.mem_of_find?_eq_some h)
  rw [ceR_val (valE_iff.1 hE).1] at h1
  exact ⟨hE,h2,h1⟩
theorem valB_none {hs:List Term} {a b:Term} (hE:valE hs a b=0):valB hs a b=(valX hs a b).isNone:=by
  unfold valB;rw [decide_eq_true hE,Bool.true_and]
theorem good_perm {l m:List Term} (h:Good l) (hs:∀ t∈m,t∈l):Good m:=h.sub (fun t ht=>chkL_zero h.chk t (hs t ht)) fun t ht v hv=>⟨t,hs t ht,hv⟩
theorem valX_symm {a b:Term} (hE:valE [] a b=0) (hE':valE [] b a=0):valX [] a b=valX [] b a:=by
  have hg:=(valE_iff.1 hE).1
  have hg':=(valE_iff.1 hE').1
  have hv:varsX (eqW [] a b)=varsX (eqW [] b a):=varsX_congr (fun v=>by simp [eqW,or_comm]) hg.sorted hg'.sorted
  have hb:bitsX (eqW [] a b)=bitsX (eqW [] b a):=by unfold bitsX;rw [hv]
  rw [valX_R hE,valX_R hE',hv,hb]
  refine find_congr fun k _=>?_
  unfold ceR
  congr 1
  congr 1
  exact decide_eq_decide.2 eq_comm
theorem valA_symm {a b:Term} (hE:valE [] a b=0) (hE':valE [] b a=0):valA [] a b=valA [] b a:=by
  have hg:=(valE_iff.1 hE).1
  have hg':=(valE_iff.1 hE').1
  have hv:varsX (eqW [] a b)=varsX (eqW [] b a):=varsX_congr (fun v=>by simp [eqW,or_comm]) hg.sorted hg'.sorted
  unfold valA
  rw [valX_symm hE hE',hv]
theorem valB_symm {a b:Term} (hE:valE [] a b=0) (hE':valE [] b a=0):valB [] a b=valB [] b a:=by
  rw [valB_none hE,valB_none hE',valX_symm hE hE']
theorem eq_of {a b:Term} (hE:valE [] a b=0):valB [] a b=true↔∀ E,a.valT E=b.valT E:=by
  rw [valB_iff hE]
  exact ⟨fun h E=>h E (by simp),fun h E _=>h E⟩
theorem valB_trans {a b c:Term} (h1:valE [] a b=0) (h2:valE [] b c=0) (h3:valE [] a c=0) (h:valB [] a b=true):valB [] a c=valB [] b c:=by
  have h:=(eq_of h1).1 h
  rw [Bool.eq_iff_iff,eq_of h2,eq_of h3]
  exact ⟨fun g E=>by rw [← h E];exact g E,fun g E=>by rw [h E];exact g E⟩
theorem val_put {E:ByteArray→Nat} {a b:Term} (hw:a.w=b.w) (hv:a.valT E=b.valT E):∀ {p:List Int} {t u:Term},t.atP p=some a→t.putP b p=some u→t.valT E=u.valT E∧t.w=u.w
  | [],t,u,ha,hp=>by
    simp only [Term.atP,Option.some.injEq] at ha
    simp only [Term.putP,Option.some.injEq] at hp
    subst ha;subst hp
    exact ⟨hv,hw⟩
  | i :: r,t,u,ha,hp=>by
    obtain ⟨j,x,y,rfl,h1,h2,rfl⟩:=Term.putP_some hp
    rw [Term.atP_of h1] at ha
    obtain ⟨h3,h4⟩:=val_put hw hv ha h2
    refine ⟨?_,rfl⟩
    rw [Term.valT_eq,Term.valT_eq]
    show _=if t.op=1 then E t.name % 2^cw t.w else compN t.op t.w t.v.toNat (Term.valsT E (t.args.set j y))
    have:Term.valsT E (t.args.set j y)=Term.valsT E t.args:=by
      rw [Term.valsT_map,Term.valsT_map,List.map_set]
      refine List.ext_getElem? fun n=>?_
      rw [List.getElem?_set]
      split
      · rename_i e
        subst e
        rw [List.getElem?_map,h1]
        simp only [Option.map_some,h3,h4]
        rw [if_pos (by rw [List.length_map];exact (List.getElem?_eq_some_iff.1 h1).1)]
      · rfl
    rw [this]
theorem put_w {a b:Term} (hw:a.w=b.w):∀ {p:List Int} {t u:Term},t.atP p=some a→t.putP b p=some u→t.w=u.w
  | [],t,u,ha,hp=>by
    simp only [Term.atP,Option.some.injEq] at ha
    simp only [Term.putP,Option.some.injEq] at hp
    subst ha;subst hp
    exact hw
  | i :: r,t,u,ha,hp=>by
    obtain ⟨j,x,y,rfl,h1,h2,rfl⟩:=Term.putP_some hp
    rfl
theorem put_atW {a b:Term}:∀ {p:List Int} {t:Term},t.atP p=some a→∃ u,t.putP b p=some u
  | [],t,_=>⟨b,by simp [Term.putP]⟩
  | i :: r,t,h=>by
    simp only [Term.atP] at h
    split at h
    · rename_i h0
      split at h
      · rename_i x hx
        obtain ⟨v,hv⟩:=put_atW (b:=b) h
        exact ⟨.mk t.op t.w t.v t.name (t.args.set i.toNat v),by simp only [Term.putP,hx,hv,if_pos h0]⟩
      · cases h
    · cases h
theorem at_pre {a:Term}:∀ {p:List Int} {t:Term},t.atP p=some a→∀ u∈a.pre,u∈t.pre
  | [],t,h,u,hu=>by
    simp only [Term.atP,Option.some.injEq] at h
    subst h;exact hu
  | i :: r,t,h,u,hu=>by
    simp only [Term.atP] at h
    split at h
    · split at h
      · rename_i x hx
        exact mem_pre.2 (.inr ⟨x,List.mem_of_getElem? hx,at_pre h u hu⟩)
      · cases h
    · cases h
theorem deep_mem {t x:Term} (h:x∈t.args):x.deep<t.deep:=by
  rw [Term.deep_eq t]
  have key:∀ l:List Term,x∈l→x.deep≤Term.deeps l:=fun l=>by
    induction l with
    | nil=>intro h;cases h
    | cons y l ih=>
      intro h
      simp only [Term.deeps]
      rcases List.mem_cons.1 h with rfl | h
      · exact Nat.le_max_left _ _
      · exact Nat.le_trans (ih h) (Nat.le_max_right _ _)
  have:=key t.args h
  omega
theorem at_deep {a:Term}:∀ {p:List Int} {t:Term},t.atP p=some a→a.deep≤t.deep
  | [],t,h=>by
    simp only [Term.atP,Option.some.injEq] at h
    subst h;exact Nat.le_refl _
  | i :: r,t,h=>by
    simp only [Term.atP] at h
    split at h
    · split at h
      · rename_i x hx
        have h1:=at_deep h
        have h2:=deep_mem (List.mem_of_getElem? hx)
        omega
      · cases h
    · cases h
theorem at_checkW {a t:Term} {p:List Int} (h:t.atP p=some a) (hk:checkT t=0):checkT a=0:=by
  rw [check_zero] at hk ⊢
  have hs:∀ u∈a.post,u∈t.post:=fun u hu=>(mem_post t u).2 (at_pre h u ((mem_post a u).1 hu))
  have h1:=at_deep h
  have h2:=atP_count h
  exact ⟨by omega,by omega,fun u hu=>hk.2.2.1 u (hs u hu),fun u hu b hb=>hk.2.2.2 u (hs u hu) b (hs b hb)⟩
theorem vars_sub {a t:Term} (hk:checkT t=0) (hs:∀ u∈a.post,u∈t.post):∀ v∈varsT a,v∈varsT t:=fun v hv=>by
  obtain ⟨u,hu,h1,rfl⟩:=vars_in hv
  obtain ⟨v',h2,h3⟩:=vars_of (hs u hu) h1
  have h4:=vars_w hk (hs u hu) h1 h2 h3
  have:v'=⟨u.name,u.w⟩:=v2_ext h3 h4
  rw [← this];exact h2
theorem congr_W {t u a b:Term} {p:List Int} (hg:Good [t,u,b]) (ha:t.atP p=some a) (hp:t.putP b p=some u) (hw:a.w=b.w):valE [] a b=0∧valE [] t u=0∧(valB [] a b=true→valB [] t u=true):=by
  have hkt:=chkL_zero hg.chk t (by simp)
  have hs:∀ x∈a.post,x∈t.post:=fun x hx=>(mem_post t x).2 (at_pre ha x ((mem_post a x).1 hx))
  have g1:Good [a,b]:=hg.sub (fun x hx=>by
      rcases List.mem_cons.1 hx with rfl | hx
      · exact at_checkW ha hkt
      · rw [List.mem_singleton.1 hx];exact chkL_zero hg.chk b (by simp)) (fun x hx v hv=>by
      rcases List.mem_cons.1 hx with rfl | hx
      · exact ⟨t,by simp,vars_sub hkt hs v hv⟩
      · rw [List.mem_singleton.1 hx] at hv;exact ⟨b,by simp,hv⟩)
  have g2:Good [t,u]:=good_perm hg (fun x hx=>by rcases List.mem_cons.1 hx with rfl | hx;simp;rw [List.mem_singleton.1 hx];simp)
  have e1:valE [] a b=0:=valE_iff.2 ⟨g1,hw,rfl⟩
  have e2:valE [] t u=0:=valE_iff.2 ⟨g2,put_w hw ha hp,rfl⟩
  refine ⟨e1,e2,fun h=>?_⟩
  rw [eq_of e1] at h
  rw [eq_of e2]
  exact fun E=>(val_put hw (h E) ha hp).1
theorem node_w {t:Term} (h:nodeN t=0):1≤t.w∧t.w≤64:=by
  have hn:=nodeok8 h
  refine ⟨hn.w,?_⟩
  have h8:=hn.wd
  have key:∀ (l:List Int) (i:Nat),l.all okW=true→l.getD i 0≤64:=fun l i hl=>by
    rw [List.getD_eq_getElem?_getD]
    cases hi:l[i]? with
    | none=>simp
    | some x=>
      have:=List.all_eq_true.1 hl x (List.mem_of_getElem? hi)
      unfold okW at this
      have:=of_decide_eq_true this
      simp only [Option.getD_some];omega
  have bad:∀ {x y:Int},y≠0→(x,y)=(t.w,(0:Int))→t.w≤64:=fun hy h=>absurd (congrArg Prod.snd h) hy
  have fst:∀ {x y:Int},x≤64→(x,y)=(t.w,(0:Int))→t.w≤64:=fun hx h=>by have:=congrArg Prod.fst h;simp only at this;omega
  unfold widthW at h8
  split at h8
  · exact bad (by decide) h8
  split at h8
  · exact bad (by decide) h8
  rename_i c2
  have c2':(t.args.map Term.w).all okW=true:=by simpa using c2
  split at h8
  · unfold leafW at h8
    split at h8
    · exact bad (by decide) h8
    · rename_i c;exact fst (by omega) h8
  split at h8
  · unfold sizeW at h8
    split at h8
    · exact bad (by decide) h8
    · rename_i c;exact fst (by omega) h8
  split at h8
  · exact fst (key _ 0 c2') h8
  split at h8
  · split at h8
    · rename_i c;exact fst c.2.2 h8
    · exact bad (by decide) h8
  split at h8
  · split at h8
    · exact fst (key _ 1 c2') h8
    · exact bad (by decide) h8
  split at h8
  · split at h8
    · exact fst (by decide) h8
    · exact fst (key _ 0 c2') h8
  · exact bad (by decide) h8
def eqN (a b:Term):Term:=.mk 16 1 0 (bs []) [a,b]
theorem post_eqN (a b:Term):(eqN a b).post=a.post++b.post++[eqN a b]:=by
  rw [Term.post_eq];simp [eqN,Term.args,Term.posts]
theorem post_self (t:Term):t∈t.post:=by rw [Term.post_eq];simp
theorem okW_of {w:Int} (h:1≤w∧w≤64):okW w=true:=by unfold okW;exact decide_eq_true (by omega)
theorem node_eqN {a b:Term} (ha:nodeN a=0) (hw:a.w=b.w):nodeN (eqN a b)=0:=by
  have h:=node_w ha
  have ho:=okW_of h
  have hb:okW b.w=true:=by rw [← hw];exact ho
  have hW:widthW 16 1 0 [a.w,b.w]=(1,0):=by
    simp [widthW,show arity 16=2 from rfl,ho,hb,hw]
  unfold nodeN
  show (if arity 16<0 then 4 else if 24≤(16:Int)∧(16:Int)≤26 then 4 else if ¬ ((2:Nat):Int)=arity 16 then 4
    else if ¬ bs []=bs []∧¬ (16:Int)=1 then 4 else if ¬ (0:Int)=0∧¬ (16:Int)=2∧¬ (16:Int)=21 then 4
    else if (16:Int)=1∧nameOk (bs [])=false then 5 else if (1:Int)<1 then 3
    else if ¬ (widthW 16 1 0 [a.w,b.w]).2=0 then 3 else if ¬ (widthW 16 1 0 [a.w,b.w]).1=1 then 3 else 0)=(0:Int)
  rw [hW]
  simp [show arity 16=2 from rfl]
theorem cfl_iff {u v:Term}:cfl u v=false↔(u.op=1→v.op=1→u.name=v.name→u.w=v.w):=by
  unfold cfl
  rw [decide_eq_false_iff_not]
  constructor
  · intro h h1 h2 h3
    exact Classical.byContradiction fun h4=>h ⟨h1,h2,h3,h4⟩
  · rintro h ⟨h1,h2,h3,h4⟩
    exact h4 (h h1 h2 h3)
theorem Good.cfl {l:List Term} (h:Good l) {s t u v:Term} (hs:s∈l) (ht:t∈l) (hu:u∈s.post) (hv:v∈t.post):cfl u v=false:=by
  rw [cfl_iff]
  intro h1 h2 h3
  obtain ⟨x,hx,ex⟩:=vars_of hu h1
  obtain ⟨y,hy,ey⟩:=vars_of hv h2
  have wx:=vars_w (chkL_zero h.chk s hs) hu h1 hx ex
  have wy:=vars_w (chkL_zero h.chk t ht) hv h2 hy ey
  rw [← wx,← wy]
  refine Classical.byContradiction fun hn=>h.clash ⟨x,varsX_all.1 (varsX_mem.2 ⟨s,hs,hx⟩),y,varsX_all.1 (varsX_mem.2 ⟨t,ht,hy⟩),?_,hn⟩
  rw [ex,ey,h3]
theorem check_eqN {a b:Term} (hg:Good [a,b]) (hw:a.w=b.w) (hda:a.deep≤60) (hdb:b.deep≤60) (hca:a.count≤2000) (hcb:b.count≤2000):checkT (eqN a b)=0:=by
  have ka:=(check_zero a).1 (chkL_zero hg.chk a (by simp))
  have kb:=(check_zero b).1 (chkL_zero hg.chk b (by simp))
  have hd:(eqN a b).deep≤61:=by
    rw [Term.deep_eq]
    show Term.deeps [a,b]+1≤61
    simp only [Term.deeps]
    omega
  have hc:(eqN a b).count≤4001:=by
    rw [Term.count_eq]
    show 1+Term.counts [a,b]≤4001
    simp only [Term.counts]
    omega
  rw [check_zero]
  refine ⟨by omega,by omega,fun u hu=>?_,fun u hu v hv=>?_⟩
  · rw [post_eqN,List.mem_append,List.mem_append,List.mem_singleton] at hu
    rcases hu with (hu | hu) | rfl
    · exact ka.2.2.1 u hu
    · exact kb.2.2.1 u hu
    · exact node_eqN (ka.2.2.1 a (post_self a)) hw
  · rw [post_eqN,List.mem_append,List.mem_append,List.mem_singleton] at hu hv
    have hn:∀ u,u=eqN a b→¬ u.op=1:=fun u h=>by rw [h];show ¬ (16:Int)=1;decide
    rcases hu with (hu | hu) | hu<;>rcases hv with (hv | hv) | hv<;>first
      | exact hg.cfl (by simp) (by simp) hu hv
      | exact cfl_iff.2 fun h=>absurd h (hn _ hu)
      | exact cfl_iff.2 fun _ h=>absurd h (hn _ hv)
theorem vars_eqN {a b:Term} {v:V2} (h:v∈varsT (eqN a b)):∃ t∈[a,b],∃ u∈t.post,u.op=1∧v=⟨u.name,u.w⟩:=by
  obtain ⟨u,hu,h1,rfl⟩:=vars_in h
  rw [post_eqN,List.mem_append,List.mem_append,List.mem_singleton] at hu
  rcases hu with (hu | hu) | rfl
  · exact ⟨a,by simp,u,hu,h1,rfl⟩
  · exact ⟨b,by simp,u,hu,h1,rfl⟩
  · exact absurd h1 (by show ¬ (16:Int)=1;decide)
theorem vars_mem {t u:Term} (hk:checkT t=0) (hu:u∈t.post) (h1:u.op=1):(⟨u.name,u.w⟩:V2)∈varsT t:=by
  obtain ⟨v',h2,h3⟩:=vars_of hu h1
  have:v'=⟨u.name,u.w⟩:=v2_ext h3 (vars_w hk hu h1 h2 h3)
  rw [← this];exact h2
theorem flag_01 {x:Bool}:flagN x=1↔x=true:=by cases x<;>simp [flagN]
theorem val_eqN {E:ByteArray→Nat} {a b:Term} (ha:a.valT E<2^cw a.w) (hb:b.valT E<2^cw b.w) (hw:a.w=b.w):(eqN a b).valT E=1↔a.valT E=b.valT E:=by
  rw [Term.valT_eq]
  show (if (16:Int)=1 then E (bs []) % 2^cw 1 else compN 16 1 0 (Term.valsT E [a,b]))=1↔_
  rw [if_neg (by decide),Term.valsT_map]
  show binN 16 (cw a.w) (a.valT E) (b.valT E)=1↔_
  rw [← hw] at hb
  simp only [binN]
  rw [Nat.mod_eq_of_lt ha,Nat.mod_eq_of_lt hb]
  simp [flag_01]
theorem plain_W {a b:Term} (h:valE [] a b=0) (ha:TOk a) (hb:TOk b) (hda:a.deep≤60) (hdb:b.deep≤60) (hca:a.count≤2000) (hcb:b.count≤2000):valE [eqN a b] a b=0∧valB [eqN a b] a b=true∧valA [eqN a b] a b=[]:=by
  obtain ⟨hg,hw,_⟩:=valE_iff.1 h
  have hg':Good [a,b]:=hg
  have hk:=check_eqN hg' hw hda hdb hca hcb
  have g:Good (eqW [eqN a b] a b):=hg'.sub (fun t ht=>by
      have ht':t∈[eqN a b,a,b]:=ht
      rcases List.mem_cons.1 ht' with rfl | ht'
      · exact hk
      · exact chkL_zero hg'.chk t ht') (fun t ht v hv=>by
      have ht':t∈[eqN a b,a,b]:=ht
      rcases List.mem_cons.1 ht' with rfl | ht'
      · obtain ⟨x,hx,u,hu,h1,rfl⟩:=vars_eqN hv
        exact ⟨x,hx,vars_mem (chkL_zero hg'.chk x hx) hu h1⟩
      · exact ⟨t,ht',hv⟩)
  have hE:valE [eqN a b] a b=0:=valE_iff.2 ⟨g,hw,rfl⟩
  have hB:valB [eqN a b] a b=true:=by
    rw [valB_iff hE]
    intro E he
    exact (val_eqN (val_ok E a (check_all (chkL_zero hg'.chk a (by simp))) ha).1 (val_ok E b (check_all (chkL_zero hg'.chk b (by simp))) hb).1 hw).1 (he _ (by simp))
  refine ⟨hE,hB,?_⟩
  rw [valB_none hE,Option.isNone_iff_eq_none] at hB
  unfold valA
  rw [hB]
end Go.AE.S
