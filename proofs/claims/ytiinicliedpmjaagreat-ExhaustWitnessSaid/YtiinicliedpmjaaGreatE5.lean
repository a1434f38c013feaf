import Derived.Test.YtiinicliedpmjaaGreatE4
namespace Go.AE.S
open Go Go.AE
set_option linter.unusedSimpArgs false
set_option linter.unusedVariables false
theorem chkL_all:∀ {l:List Term},(∀ t∈l,checkT t=0)→chkL l=0
  | [],_=>rfl
  | a :: l,h=>by
    unfold chkL
    rw [h a (by simp)]
    simpa using chkL_all fun t ht=>h t (by simp [ht])
theorem sumW_app:∀ (a b:List V2),sumW (a++b)=sumW a+sumW b
  | [],b=>by simp [sumW]
  | v :: a,b=>by
    rw [List.cons_append,sumW,sumW,sumW_app a b]
    omega
theorem sumW_sub:∀ (m l:List V2),m.Nodup→(∀ v∈m,v∈l)→(∀ v∈l,1≤v.w)→sumW m≤sumW l
  | [],l,_,_,hw=>by
    have:∀ l:List V2,(∀ v∈l,1≤v.w)→0≤sumW l:=fun l=>by
      induction l with
      | nil=>intro _;simp [sumW]
      | cons a l ih=>
        intro h
        have h1:=h a (by simp)
        have h2:=ih fun v hv=>h v (by simp [hv])
        rw [sumW];omega
    simpa [sumW] using this l hw
  | a :: m,l,hn,hs,hw=>by
    obtain ⟨l1,l2,rfl⟩:=List.append_of_mem (hs a (by simp))
    rw [List.nodup_cons] at hn
    have h:=sumW_sub m (l1++l2) hn.2 (fun v hv=>by
      have h1:=hs v (by simp [hv])
      rw [List.mem_append,List.mem_cons] at h1
      rw [List.mem_append]
      rcases h1 with h1 | h1 | h1
      · exact .inl h1
      · rw [h1] at hv;exact absurd hv hn.1
      · exact .inr h1) (fun v hv=>hw v (by
      rw [List.mem_append] at hv
      rw [List.mem_append,List.mem_cons]
      rcases hv with h | h
      · exact .inl h
      · exact .inr (.inr h)))
    rw [sumW_app] at h
    rw [sumW,sumW_app,sumW]
    omega
theorem strict_nodup {l:List V2} (h:StrictW l):l.Nodup:=h.imp fun {a b} hab e=>by rw [e,ltNW_irrefl] at hab;cases hab
theorem Good.sub {l m:List Term} (h:Good l) (hk:∀ t∈m,checkT t=0) (hs:∀ t∈m,∀ v∈varsT t,∃ u∈l,v∈varsT u):Good m:=by
  have hv:∀ v∈varsX m,v∈varsX l:=fun v hv=>by
    obtain ⟨t,ht,h1⟩:=varsX_mem.1 hv
    exact varsX_mem.2 (hs t ht v h1)
  refine ⟨chkL_all hk,?_,?_⟩
  · rintro ⟨x,hx,y,hy,h1⟩
    exact h.clash ⟨x,varsX_all.1 (hv x (varsX_all.2 hx)),y,varsX_all.1 (hv y (varsX_all.2 hy)),h1⟩
  · have h1:=sumW_sub (varsX m) (varsX l) (strict_nodup (varsX_strict m)) hv fun v hv=>(h.ok v hv).1
    have h2:=h.bits
    omega
theorem cw_w {w:Int} (h:1≤w∧w≤64):cw w=w.toNat:=by
  unfold cw clampW;omega
theorem look_head {n:ByteArray} {b:Bd} {r:List Bd} (h:b.name=n):lookB n (b :: r)=some b.v:=by unfold lookB;rw [if_pos h]
theorem look_tail {n:ByteArray} {b:Bd} {r:List Bd} (h:¬ b.name=n):lookB n (b :: r)=lookB n r:=by
  conv=>lhs;unfold lookB
  rw [if_neg h]
theorem sumW_pos:∀ {l:List V2},(∀ v∈l,okV2 v)→0≤sumW l
  | [],_=>by simp [sumW]
  | a :: l,h=>by
    have h1:=h a (by simp)
    unfold okV2 at h1
    have h2:=sumW_pos (l:=l) fun v hv=>h v (by simp [hv])
    rw [sumW];omega
theorem assign_surj (E:ByteArray→Nat):∀ (l:List V2),(∀ v∈l,okV2 v)→Sorted l→∃ k,k<2^(sumW l).toNat∧∀ v∈l,lookB v.name (assignT k l)=some (E v.name % 2^cw v.w)
  | [],_,_=>⟨0,by simp [sumW],by simp⟩
  | a :: l,h,hs=>by
    have h1:=h a (by simp)
    have hs':=List.pairwise_cons.1 hs
    obtain ⟨k,hk,hE⟩:=assign_surj E l (fun v hv=>h v (by simp [hv])) hs'.2
    have hp:=sumW_pos (l:=l) fun v hv=>h v (by simp [hv])
    have hc:=cw_w h1
    unfold okV2 at h1
    have he:(sumW (a :: l)).toNat=cw a.w+(sumW l).toNat:=by rw [sumW,hc];omega
    have hm:E a.name % 2^cw a.w<2^cw a.w:=Nat.mod_lt _ (Nat.two_pow_pos _)
    refine ⟨E a.name % 2^cw a.w+2^cw a.w*k,?_,?_⟩
    · rw [he,Nat.pow_add]
      have:2^cw a.w*(k+1)≤2^cw a.w*2^(sumW l).toNat:=Nat.mul_le_mul_left _ hk
      rw [Nat.mul_add,Nat.mul_one] at this
      omega
    · intro v hv
      unfold assignT
      rw [← hc,Nat.add_mul_mod_self_left,Nat.mod_mod,Nat.add_mul_div_left _ _ (Nat.two_pow_pos _),Nat.div_eq_of_lt hm,Nat.zero_add]
      rcases List.mem_cons.1 hv with rfl | hv
      · exact look_head rfl
      · have hne:=slt_ne (hs'.1 v hv)
        rw [look_tail hne]
        exact hE v hv
theorem Good.env {l:List Term} (h:Good l) (E:ByteArray→Nat):∃ k,k<2^bitsX l∧∀ t∈l,t.valT E=t.valT (envB (assignT k (varsX l))):=by
  obtain ⟨k,hk,hE⟩:=assign_surj E (varsX l) h.ok h.sorted
  refine ⟨k,hk,fun t ht=>val_env _ _ t fun u hu h1=>?_⟩
  obtain ⟨v,hv,hn⟩:=vars_of hu h1
  have hw:=vars_w (chkL_zero h.chk t ht) hu h1 hv hn
  have h2:=hE v (varsX_mem.2 ⟨t,ht,hv⟩)
  rw [hn,hw] at h2
  unfold envB
  rw [h2]
  simp
theorem valE_iff {hs:List Term} {a b:Term}:valE hs a b=0↔Good (eqW hs a b)∧a.w=b.w∧hs.any notOne=false:=by
  unfold valE
  constructor
  · intro h
    split at h
    · rename_i c;exact absurd h c
    · rename_i c
      refine ⟨good_of (by simpa using c),?_⟩
      split at h
      · assumption
      · cases h
  · rintro ⟨h1,h2⟩
    rw [if_neg (by simpa using good_err h1),if_pos h2]
theorem valX_R {hs:List Term} {a b:Term} (hE:valE hs a b=0):valX hs a b=(List.range (2^bitsX (eqW hs a b))).find? (fun k=>ceR hs a b (assignT k (varsX (eqW hs a b)))):=by
  unfold valX
  rw [if_pos hE]
  exact find_congr fun k hk=>ceR_X (valE_iff.1 hE).1 (List.mem_range.1 hk)
theorem ceR_val {hs:List Term} {a b:Term} (hg:Good (eqW hs a b)) (k:Nat):ceR hs a b (assignT k (varsX (eqW hs a b)))=true↔(∀ t∈hs,t.valT (envB (assignT k (varsX (eqW hs a b))))=1)∧a.valT (envB (assignT k (varsX (eqW hs a b))))≠b.valT (envB (assignT k (varsX (eqW hs a b)))):=by
  have ha:a∈eqW hs a b:=by simp [eqW]
  have hb:b∈eqW hs a b:=by simp [eqW]
  unfold ceR
  rw [Bool.and_eq_true,List.all_eq_true,Bool.not_eq_true',decide_eq_false_iff_not,valR_X hg ha,valR_X hg hb]
  refine and_congr ⟨fun h t ht=>?_,fun h t ht=>?_⟩ Iff.rfl
  · have:=of_decide_eq_true (h t ht)
    rwa [valR_X hg (by simp [eqW,ht])] at this
  · unfold isOneR
    rw [valR_X hg (by simp [eqW,ht])]
    exact decide_eq_true (h t ht)
theorem valB_iff {hs:List Term} {a b:Term} (hE:valE hs a b=0):valB hs a b=true↔∀ E,(∀ t∈hs,t.valT E=1)→a.valT E=b.valT E:=by
  have hg:=(valE_iff.1 hE).1
  have ha:a∈eqW hs a b:=by simp [eqW]
  have hb:b∈eqW hs a b:=by simp [eqW]
  unfold valB
  rw [decide_eq_true hE,Bool.true_and,Option.isNone_iff_eq_none,valX_R hE,List.find?_eq_none]
  constructor
  · intro h E hh
    obtain ⟨k,hk,hv⟩:=hg.env E
    have h1:=h k (List.mem_range.2 hk)
    rw [ceR_val hg] at h1
    rw [hv a ha,hv b hb]
    apply Classical.byContradiction
    intro hne
    exact h1 ⟨fun t ht=>by rw [← hv t (by simp [eqW,ht])];exact hh t ht,hne⟩
  · intro h k hk hc
    rw [ceR_val hg] at hc
    exact hc.2 (h _ hc.1)
theorem valX_some {hs:List Term} {a b:Term} {k:Nat} (h:valX hs a b=some k):valE hs a b=0∧k<2^bitsX (eqW hs a b)∧(∀ t∈hs,t.valT (envB (assignT k (varsX (eqW hs a b))))=1)∧a.valT (envB (assignT k (varsX (eqW hs a b))))≠b.valT (envB (assignT k (varsX (eqW hs a b)))):=by
  have hE:valE hs a b=0:=by
    unfold valX at h
    split at h
    · assumption
    · cases h
  rw [valX_R hE] at h
  have h1:=List.find?_some h
  have h2:=List.mem_range.1 (List.mem_of_find?_eq_some h)
  rw [ceR_val (valE_iff.1 hE).1] at h1
  exact ⟨hE,h2,h1⟩
theorem valB_none {hs:List Term} {a b:Term} (hE:valE hs a b=0):valB hs a b=(valX hs a b).isNone:=by
  unfold valB;rw [decide_eq_true hE,Bool.true_and]
theorem eq_of {a b:Term} (hE:valE [] a b=0):valB [] a b=true↔∀ E,a.valT E=b.valT E:=by
  rw [valB_iff hE]
  exact ⟨fun h E=>h E (by simp),fun h E _=>h E⟩
theorem cfl_iff {u v:Term}:cfl u v=false↔(u.op=1→v.op=1→u.name=v.name→u.w=v.w):=by
  unfold cfl
  rw [decide_eq_false_iff_not]
  constructor
  · intro h h1 h2 h3
    exact Classical.byContradiction fun h4=>h ⟨h1,h2,h3,h4⟩
  · rintro h ⟨h1,h2,h3,h4⟩
    exact h4 (h h1 h2 h3)
theorem Good.cfl {l:List Term} (h:Good l) {s t u v:Term} (hs:s∈l) (ht:t∈l) (hu:u∈s.post) (hv:v∈t.post):cfl u v=false:=by
  rw [cfl_iff]
  intro h1 h2 h3
  obtain ⟨x,hx,ex⟩:=vars_of hu h1
  obtain ⟨y,hy,ey⟩:=vars_of hv h2
  have wx:=vars_w (chkL_zero h.chk s hs) hu h1 hx ex
  have wy:=vars_w (chkL_zero h.chk t ht) hv h2 hy ey
  rw [← wx,← wy]
  refine Classical.byContradiction fun hn=>h.clash ⟨x,varsX_all.1 (varsX_mem.2 ⟨s,hs,hx⟩),y,varsX_all.1 (varsX_mem.2 ⟨t,ht,hy⟩),?_,hn⟩
  rw [ex,ey,h3]
end Go.AE.S
