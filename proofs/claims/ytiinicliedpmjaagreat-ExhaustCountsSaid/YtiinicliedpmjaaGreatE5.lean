import Derived.Test.YtiinicliedpmjaaGreatE4
namespace Go.AE.S
open Go Go.AE
set_option linter.unusedSimpArgs false
set_option linter.unusedVariables false
theorem chkL_all:∀ {l:List Term},(∀ t∈l,checkT t=0)→chkL l=0
  | [],_=>rfl
  | a :: l,h=>by
    unfold chkL
    rw [h a (by simp)]
    simpa using chkL_all fun t ht=>h t (by simp [ht])
theorem varsX_congr {l m:List Term} (h:∀ v,(∃ t∈l,v∈varsT t)↔(∃ t∈m,v∈varsT t)) (hl:Sorted (varsX l)) (hm:Sorted (varsX m)):varsX l=varsX m :=
  sort_uniq hl hm fun x=>by rw [varsX_mem,varsX_mem];exact h x
theorem sumW_app:∀ (a b:List V2),sumW (a++b)=sumW a+sumW b
  | [],b=>by simp [sumW]
  | v :: a,b=>by
    rw [List.cons_append,sumW,sumW,sumW_app a b]
    omega
theorem sumW_sub:∀ (m l:List V2),m.Nodup→(∀ v∈m,v∈l)→(∀ v∈l,1≤v.w)→sumW m≤sumW l
  | [],l,_,_,hw=>by
    have:∀ l:List V2,(∀ v∈l,1≤v.w)→0≤sumW l:=fun l=>by
      induction l with
      | nil=>intro _;simp [sumW]
      | cons a l ih=>
        intro h
        have h1:=h a (by simp)
        have h2:=ih fun v hv=>h v (by simp [hv])
        rw [sumW];omega
    simpa [sumW] using this l hw
  | a :: m,l,hn,hs,hw=>by
    obtain ⟨l1,l2,rfl⟩:=List.append_of_mem (hs a (by simp))
    rw [List.nodup_cons] at hn
    have h:=sumW_sub m (l1++l2) hn.2 (fun v hv=>by
      have h1:=hs v (by simp [hv])
      rw [List.mem_append,List.mem_cons] at h1
      rw [List.mem_append]
      rcases h1 with h1 | h1 | h1
      · exact .inl h1
      · rw [h1] at hv;exact absurd hv hn.1
      · exact .inr h1) (fun v hv=>hw v (by
      rw [List.mem_append] at hv
      rw [List.mem_append,List.mem_cons]
      rcases hv with h | h
      · exact .inl h
      · exact .inr (.inr h)))
    rw [sumW_app] at h
    rw [sumW,sumW_app,sumW]
    omega
theorem strict_nodup {l:List V2} (h:StrictW l):l.Nodup:=h.imp fun {a b} hab e=>by rw [e,ltNW_irrefl] at hab;cases hab
theorem Good.sub {l m:List Term} (h:Good l) (hk:∀ t∈m,checkT t=0) (hs:∀ t∈m,∀ v∈varsT t,∃ u∈l,v∈varsT u):Good m:=by
  have hv:∀ v∈varsX m,v∈varsX l:=fun v hv=>by
    obtain ⟨t,ht,h1⟩:=varsX_mem.1 hv
    exact varsX_mem.2 (hs t ht v h1)
  refine ⟨chkL_all hk,?_,?_⟩
  · rintro ⟨x,hx,y,hy,h1⟩
    exact h.clash ⟨x,varsX_all.1 (hv x (varsX_all.2 hx)),y,varsX_all.1 (hv y (varsX_all.2 hy)),h1⟩
  · have h1:=sumW_sub (varsX m) (varsX l) (strict_nodup (varsX_strict m)) hv fun v hv=>(h.ok v hv).1
    have h2:=h.bits
    omega
theorem cw_w {w:Int} (h:1≤w∧w≤64):cw w=w.toNat:=by
  unfold cw clampW;omega
theorem look_head {n:ByteArray} {b:Bd} {r:List Bd} (h:b.name=n):lookB n (b :: r)=some b.v:=by unfold lookB;rw [if_pos h]
theorem look_tail {n:ByteArray} {b:Bd} {r:List Bd} (h:¬ b.name=n):lookB n (b :: r)=lookB n r:=by
  conv=>lhs;unfold lookB
  rw [if_neg h]
theorem sumW_pos:∀ {l:List V2},(∀ v∈l,okV2 v)→0≤sumW l
  | [],_=>by simp [sumW]
  | a :: l,h=>by
    have h1:=h a (by simp)
    unfold okV2 at h1
    have h2:=sumW_pos (l:=l) fun v hv=>h v (by simp [hv])
    rw [sumW];omega
theorem assign_surj (E:ByteArray→Nat):∀ (l:List V2),(∀ v∈l,okV2 v)→Sorted l→∃ k,k<2^(sumW l).toNat∧∀ v∈l,lookB v.name (assignT k l)=some (E v.name % 2^cw v.w)
  | [],_,_=>⟨0,by simp [sumW],by simp⟩
  | a :: l,h,hs=>by
    have h1:=h a (by simp)
    have hs':=List.pairwise_cons.1 hs
    obtain ⟨k,hk,hE⟩:=assign_surj E l (fun v hv=>h v (by simp [hv])) hs'.2
    have hp:=sumW_pos (l:=l) fun v hv=>h v (by simp [hv])
    have hc:=cw_w h1
    unfold okV2 at h1
    have he:(sumW (a :: l)).toNat=cw a.w+(sumW l).toNat:=by rw [sumW,hc];omega
    have hm:E a.name % 2^cw a.w<2^cw a.w:=Nat.mod_lt _ (Nat.two_pow_pos _)
    refine ⟨E a.name % 2^cw a.w+2^cw a.w*k,?_,?_⟩
    · rw [he,Nat.pow_add]
      have:2^cw a.w*(k+1)≤2^cw a.w*2^(sumW l).toNat:=Nat.mul_le_mul_left _ hk
      rw [Nat.mul_add,Nat.mul_one] at this
      omega
    · intro v hv
      unfold assignT
      rw [← hc,Nat.add_mul_mod_self_left,Nat.mod_mod,Nat.add_mul_div_left _ _ (Nat.two_pow_pos _),Nat.div_eq_of_lt hm,Nat.zero_add]
      rcases List.mem_cons.1 hv with rfl | hv
      · exact look_head rfl
      · have hne:=slt_ne (hs'.1 v hv)
        rw [look_tail hne]
        exact hE v hv
theorem Good.env {l:List Term} (h:Good l) (E:ByteArray→Nat):∃ k,k<2^bitsX l∧∀ t∈l,t.valT E=t.valT (envB (assignT k (varsX l))):=by
  obtain ⟨k,hk,hE⟩:=assign_surj E (varsX l) h.ok h.sorted
  refine ⟨k,hk,fun t ht=>val_env _ _ t fun u hu h1=>?_⟩
  obtain ⟨v,hv,hn⟩:=vars_of hu h1
  have hw:=vars_w (chkL_zero h.chk t ht) hu h1 hv hn
  have h2:=hE v (varsX_mem.2 ⟨t,ht,hv⟩)
  rw [hn,hw] at h2
  unfold envB
  rw [h2]
  simp
theorem vars_sub {a t:Term} (hk:checkT t=0) (hs:∀ u∈a.post,u∈t.post):∀ v∈varsT a,v∈varsT t:=fun v hv=>by
  obtain ⟨u,hu,h1,rfl⟩:=vars_in hv
  obtain ⟨v',h2,h3⟩:=vars_of (hs u hu) h1
  have h4:=vars_w hk (hs u hu) h1 h2 h3
  have:v'=⟨u.name,u.w⟩:=v2_ext h3 h4
  rw [← this];exact h2
def notX (t:Term):Term:=.mk 3 1 0 (bs []) [t]
theorem post_notX (t:Term):(notX t).post=t.post++[notX t]:=by
  rw [Term.post_eq];simp [notX,Term.args,Term.posts]
theorem node_notX {t:Term} (hw:t.w=1):nodeN (notX t)=0:=by
  have hW:widthW 3 1 0 [t.w]=(1,0):=by
    simp [widthW,show arity 3=1 from rfl,hw,okW]
  unfold nodeN
  show (if arity 3<0 then 4 else if 24≤(3:Int)∧(3:Int)≤26 then 4 else if ¬ ((1:Nat):Int)=arity 3 then 4
    else if ¬ bs []=bs []∧¬ (3:Int)=1 then 4 else if ¬ (0:Int)=0∧¬ (3:Int)=2∧¬ (3:Int)=21 then 4
    else if (3:Int)=1∧nameOk (bs [])=false then 5 else if (1:Int)<1 then 3
    else if ¬ (widthW 3 1 0 [t.w]).2=0 then 3 else if ¬ (widthW 3 1 0 [t.w]).1=1 then 3 else 0)=(0:Int)
  rw [hW]
  simp [show arity 3=1 from rfl]
theorem cfl_iff {u v:Term}:cfl u v=false↔(u.op=1→v.op=1→u.name=v.name→u.w=v.w):=by
  unfold cfl
  rw [decide_eq_false_iff_not]
  constructor
  · intro h h1 h2 h3
    exact Classical.byContradiction fun h4=>h ⟨h1,h2,h3,h4⟩
  · rintro h ⟨h1,h2,h3,h4⟩
    exact h4 (h h1 h2 h3)
theorem Good.cfl {l:List Term} (h:Good l) {s t u v:Term} (hs:s∈l) (ht:t∈l) (hu:u∈s.post) (hv:v∈t.post):cfl u v=false:=by
  rw [cfl_iff]
  intro h1 h2 h3
  obtain ⟨x,hx,ex⟩:=vars_of hu h1
  obtain ⟨y,hy,ey⟩:=vars_of hv h2
  have wx:=vars_w (chkL_zero h.chk s hs) hu h1 hx ex
  have wy:=vars_w (chkL_zero h.chk t ht) hv h2 hy ey
  rw [← wx,← wy]
  refine Classical.byContradiction fun hn=>h.clash ⟨x,varsX_all.1 (varsX_mem.2 ⟨s,hs,hx⟩),y,varsX_all.1 (varsX_mem.2 ⟨t,ht,hy⟩),?_,hn⟩
  rw [ex,ey,h3]
theorem check_notX {t:Term} (hk:checkT t=0) (hw:t.w=1) (hd:t.deep≤60) (hc:t.count≤2000):checkT (notX t)=0:=by
  have ka:=(check_zero t).1 hk
  have hd:(notX t).deep≤61:=by
    rw [Term.deep_eq]
    show Term.deeps [t]+1≤61
    simp only [Term.deeps]
    omega
  have hc:(notX t).count≤4001:=by
    rw [Term.count_eq]
    show 1+Term.counts [t]≤4001
    simp only [Term.counts]
    omega
  rw [check_zero]
  refine ⟨by omega,by omega,fun u hu=>?_,fun u hu v hv=>?_⟩
  · rw [post_notX,List.mem_append,List.mem_singleton] at hu
    rcases hu with hu | rfl
    · exact ka.2.2.1 u hu
    · exact node_notX hw
  · rw [post_notX,List.mem_append,List.mem_singleton] at hu hv
    have hn:∀ u,u=notX t→¬ u.op=1:=fun u h=>by rw [h];show ¬ (3:Int)=1;decide
    rcases hu with hu | hu<;>rcases hv with hv | hv<;>first
      | exact ka.2.2.2 _ hu _ hv
      | exact cfl_iff.2 fun h=>absurd h (hn _ hu)
      | exact cfl_iff.2 fun _ h=>absurd h (hn _ hv)
theorem vars_mem {t u:Term} (hk:checkT t=0) (hu:u∈t.post) (h1:u.op=1):(⟨u.name,u.w⟩:V2)∈varsT t:=by
  obtain ⟨v',h2,h3⟩:=vars_of hu h1
  have:v'=⟨u.name,u.w⟩:=v2_ext h3 (vars_w hk hu h1 h2 h3)
  rw [← this];exact h2
theorem val_notX {E:ByteArray→Nat} {t:Term} (h:t.valT E≤1):(notX t).valT E=1-t.valT E:=by
  rw [Term.valT_eq]
  show (if (3:Int)=1 then E (bs []) % 2^cw 1 else compN 3 1 0 (Term.valsT E [t]))=_
  rw [if_neg (by decide),Term.valsT_map]
  show (18446744073709551615-t.valT E) % 2^cw 1=_
  have hc:(2:Nat)^cw 1=2:=by decide
  rw [hc]
  omega
theorem smX_add:∀ (l:List Nat) (s:Int),smX s l=s+smX 0 l
  | [],s=>by simp [smX]
  | a :: l,s=>by
    rw [smX,smX,smX_add l,smX_add l (0+(a:Int))]
    omega
theorem smX_not:∀ (l:List Nat),(∀ x∈l,x≤1)→smX 0 l+smX 0 (l.map fun x=>1-x)=l.length
  | [],_=>rfl
  | a :: l,h=>by
    have h1:=h a (by simp)
    have h2:=smX_not l fun x hx=>h x (by simp [hx])
    rw [List.map_cons,smX,smX,smX_add l,smX_add (l.map fun x=>1-x)]
    simp only [List.length_cons]
    omega
theorem smX_pos:∀ (l:List Nat),0≤smX 0 l∧(0<smX 0 l↔∃ x∈l,0<x)
  | []=>by simp [smX]
  | a :: l=>by
    obtain ⟨h1,h2⟩:=smX_pos l
    rw [smX,smX_add l]
    refine ⟨by omega,?_⟩
    constructor
    · intro h
      rcases Nat.eq_zero_or_pos a with h3 | h3
      · obtain ⟨x,hx,h4⟩:=h2.1 (by omega)
        exact ⟨x,by simp [hx],h4⟩
      · exact ⟨a,by simp,h3⟩
    · rintro ⟨x,hx,h3⟩
      rcases List.mem_cons.1 hx with rfl | hx
      · omega
      · have:=h2.2 ⟨x,hx,h3⟩;omega
theorem con_iff {t:Term}:conE t=0↔Good [t]∧t.w=1:=by
  constructor
  · exact con_good
  · rintro ⟨h1,h2⟩
    unfold conE
    rw [if_neg (by simpa using good_err h1),if_pos h2]
theorem val_le {t:Term} (h:conE t=0) (ht:TOk t) (E:ByteArray→Nat):t.valT E≤1:=by
  obtain ⟨hg,hw⟩:=con_good h
  have:=(val_ok E t (check_all (chkL_zero hg.chk t (by simp))) ht).1
  rw [hw] at this
  have h2:(2:Nat)^cw 1=2:=by decide
  omega
theorem count_W {t:Term} (h:conE t=0) (ht:TOk t) (hd:t.deep≤60) (hc:t.count≤2000):conE (notX t)=0∧cntX t+cntX (notX t)=((2^bitsX [t]:Nat):Int):=by
  obtain ⟨hg,hw⟩:=con_good h
  have hkt:=chkL_zero hg.chk t (by simp)
  have hk:=check_notX hkt hw hd hc
  have hsub:∀ v,v∈varsT (notX t)↔v∈varsT t:=fun v=>by
    constructor
    · intro hv
      obtain ⟨u,hu,h1,rfl⟩:=vars_in hv
      rw [post_notX,List.mem_append,List.mem_singleton] at hu
      rcases hu with hu | rfl
      · exact vars_mem hkt hu h1
      · exact absurd h1 (by show ¬ (3:Int)=1;decide)
    · intro hv
      exact vars_sub hk (fun u hu=>by rw [post_notX];simp [hu]) v hv
  have g:Good [notX t]:=hg.sub (fun u hu=>by rw [List.mem_singleton.1 hu];exact hk) (fun u hu v hv=>by
    rw [List.mem_singleton.1 hu] at hv
    exact ⟨t,by simp,(hsub v).1 hv⟩)
  have hE:conE (notX t)=0:=con_iff.2 ⟨g,rfl⟩
  have hv:varsX [notX t]=varsX [t]:=varsX_congr (fun v=>by
    simp only [List.mem_singleton,exists_eq_left]
    exact hsub v) g.sorted hg.sorted
  have hb:bitsX [notX t]=bitsX [t]:=by unfold bitsX;rw [hv]
  refine ⟨hE,?_⟩
  have hT:conT (notX t)=(conT t).map fun x=>1-x:=by
    rw [conT_X hE,conT_X h]
    unfold tvX tabV
    rw [hv,hb,List.map_map]
    refine List.map_congr_left fun k _=>?_
    exact val_notX (val_le h ht _)
  unfold cntX
  rw [hT,smX_not _ (con_le ht),conT_X h,tvX_len]
theorem sat_W {t:Term} (h:conE t=0) (ht:TOk t):(satX t).isSome=decide (0<cntX t):=by
  have hX:satX t=(List.range (2^bitsX [t])).find? (isOne (tvX [t] t)):=by unfold satX;rw [if_pos h]
  have hle:=con_le ht
  rw [conT_X h] at hle
  rw [Bool.eq_iff_iff,decide_eq_true_iff]
  unfold cntX
  rw [(smX_pos _).2,conT_X h,hX,List.find?_isSome]
  constructor
  · rintro ⟨k,hk,h1⟩
    unfold isOne at h1
    have h1:=of_decide_eq_true h1
    have hkl:k<(tvX [t] t).length:=by rw [tvX_len];exact List.mem_range.1 hk
    rw [List.getD_eq_getElem?_getD,List.getElem?_eq_getElem hkl] at h1
    exact ⟨_,List.getElem_mem hkl,by rw [show (tvX [t] t)[k]=1 from h1];decide⟩
  · rintro ⟨x,hx,h1⟩
    have h2:=hle x hx
    obtain ⟨k,hk,rfl⟩:=List.getElem_of_mem hx
    refine ⟨k,List.mem_range.2 (by rw [← tvX_len [t] t];exact hk),?_⟩
    unfold isOne
    rw [List.getD_eq_getElem?_getD,List.getElem?_eq_getElem hk]
    exact decide_eq_true (by simp only [Option.getD_some];omega)
theorem satX_some {t:Term} {k:Nat} (h:satX t=some k):conE t=0∧t.valT (envB (assignT k (varsX [t])))=1:=by
  have hE:conE t=0:=by
    unfold satX at h
    split at h
    · assumption
    · cases h
  have hX:satX t=(List.range (2^bitsX [t])).find? (isOne (tvX [t] t)):=by unfold satX;rw [if_pos hE]
  rw [hX] at h
  have h1:=List.find?_some h
  have h2:=List.mem_range.1 (List.mem_of_find?_eq_some h)
  unfold isOne at h1
  have h1:=of_decide_eq_true h1
  rw [tvX_get h2] at h1
  exact ⟨hE,h1⟩
end Go.AE.S
