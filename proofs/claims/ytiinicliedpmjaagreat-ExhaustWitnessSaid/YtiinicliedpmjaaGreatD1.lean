import Derived.Test.YtiinicliedpmjaaGreatD0
namespace Go.AE.S
open Go Go.AE
set_option linter.unusedSimpArgs false
set_option linter.unusedVariables false
variable {τ:Tm} {σ:Store} {rd:Option Nat}
abbrev e_rA (a b y c i:Nat):List (Nat×AV):=[(1,.p (.int .u64 a)),(2,.p (.int .u64 b)),(7,.p (.int .u64 y)),(10,.p (.int .i64 c)),(11,.p (.int .i64 i))]
theorem shl_1 {i:Nat} (hi:i<64) {k:IntKind}:arithV .shl (.p (.int .u64 1)) (.p (.int k (i:Int)))=some (.p (.int .u64 ((2^i:Nat):Int))):=by
  have h:=n_shl (k:=k) (a:=1) (n:=i) (by omega)
  have hp:=pow_lt hi
  rw [Nat.one_mul,Nat.mod_eq_of_lt (by omega)] at h
  exact h
theorem cv_64 {i:Nat} (hi:i<64):IntKind.u64.wrap (i:Int)=i:=by rw [w64,Nat.mod_eq_of_lt (by omega)]
theorem bit_and (a b i:Nat):bitN (a &&& b) i=if bitN a i=1∧bitN b i=1 then 1 else 0:=by
  have h:=Nat.testBit_and a b i
  rw [bit_test,bit_test,bit_test] at h
  have h0:=bit_lt (a &&& b) i
  split
  · rename_i hc
    simp [hc.1,hc.2] at h
    exact h
  · rename_i hc
    by_cases h1:bitN (a &&& b) i=1
    · rw [decide_eq_true h1] at h
      simp at h
      exact absurd ⟨h.1,h.2⟩ hc
    · omega
theorem mod_lt64 {i:Nat} (hi:i≤64) (x:Nat):x % 2^i<18446744073709551616:=cut_lt hi x
theorem r_And (w:Int) (a b:Nat) (ha:W a) (hb:W b):R P f_r01_And [.int .i64 w,.int .u64 (a:Int),.int .u64 (b:Int)]=some (.int .u64 (((a &&& b) % 2^cw w:Nat):Int)):=by
  have hc:=cw_in w
  have h1:=n_W w
  obtain ⟨_,h⟩:=loop_run (P:=P) (nt:=31) (lv:=[1,2,7,10,11]) (b:=B0_r01_And) (rd:=none) (as:=List.range (cw w)) (fun i (_:Unit)=>e_rA a b ((a &&& b) % 2^i) (cw w) i) (fun _=>[]) (fun _ _ _=>()) (fun _ _=>True)
    (fun i _ s _ hi hs=>by
      refine ⟨trivial,?_⟩
      have hi':i<cw w:=by simpa using hi
      have hlt:((i:Int)<((cw w:Nat):Int))=True:=by simpa using hi'
      have b1:=n_Bit a i (by omega) ha
      have b2:=n_Bit b i (by omega) hb
      have hm:=mod_bits (a &&& b) i
      rw [bit_and] at hm
      have hcv:=cv_64 (i:=i) (by omega)
      have hs1:=shl_1 (i:=i) (k:=.u64) (by omega)
      have ho:=n_or (a:=(a &&& b) % 2^i) (b:=2^i) (mod_lt64 (by omega) _) (by have:=pow_lt (i:=i) (by omega);omega)
      have l1:=bit_lt a i
      have l2:=bit_lt b i
      rcases (show bitN a i=0∨bitN a i=1 by omega) with e1 | e1
      · rw [e1] at b1 hm
        have hz:(((0:Nat):Int)=1)=False:=by simp
        simp at hm
        rw [← hm]
        simp only [B0_r01_And]
        simp (disch:=omega) only [eqY,↓gc_len,seval,-List.reduceReplicate,reduceCtorEq,allP,hlt,q_r01_Bit,b1,hz,e_rA]
      · rw [e1] at b1 hm
        have hz:(((1:Nat):Int)=1)=True:=by simp
        rcases (show bitN b i=0∨bitN b i=1 by omega) with e2 | e2
        · rw [e2] at b2 hm
          have hz0:(((0:Nat):Int)=1)=False:=by simp
          simp at hm
          rw [← hm]
          simp only [B0_r01_And]
          simp (disch:=omega) only [eqY,↓gc_len,seval,-List.reduceReplicate,reduceCtorEq,allP,hlt,q_r01_Bit,b1,b2,hz,hz0,e_rA]
        · rw [e2] at b2 hm
          simp at hm
          rw [← hm]
          simp only [B0_r01_And]
          simp (disch:=omega) only [eqY,↓gc_len,seval,-List.reduceReplicate,reduceCtorEq,allP,hlt,q_r01_Bit,b1,b2,hz,hcv,hs1,ho,e_rA]) (fun i s=>rfl) () trivial () (foldU _ 0)
  rw [List.length_range,Nat.pow_zero,Nat.mod_one] at h
  have h':loopAt P L0_r01_And [(1,.p (.int .u64 (a:Int))),(2,.p (.int .u64 (b:Int))),(7,.p (.int .u64 0)),(10,.p (.int .i64 ((cw w:Nat):Int))),(11,.p (.int .i64 0))] [] 31 none=_:=h
  (rw [r_r01_And (lbY rfl),F_r01_And];simp (disch:=omega) only [eqY,↓gc_len,seval,-List.reduceReplicate,reduceCtorEq,allP,q_r01_W,h1,k0_r01_And,h',B0_r01_And,Int.lt_irrefl,e_rA])
theorem not_test {c x:Nat} (hx:x<2^c) (i:Nat):(2^c-1-x).testBit i=(decide (i<c) && !x.testBit i):=by
  rw [Nat.sub_sub,Nat.add_comm 1 x]
  exact Nat.testBit_two_pow_sub_succ hx i
theorem or_eq {c:Nat} (a b:Nat):2^c-1-((2^c-1-a % 2^c) &&& (2^c-1-b % 2^c)) % 2^c % 2^c=(a ||| b) % 2^c:=by
  have hp:0<2^c:=Nat.pow_pos (by omega)
  have ha:a % 2^c<2^c:=Nat.mod_lt _ hp
  have hb:b % 2^c<2^c:=Nat.mod_lt _ hp
  apply Nat.eq_of_testBit_eq
  intro i
  rw [not_test (Nat.mod_lt _ hp),Nat.testBit_mod_two_pow,Nat.testBit_mod_two_pow,Nat.testBit_and,not_test ha,not_test hb,Nat.testBit_mod_two_pow,Nat.testBit_mod_two_pow,Nat.testBit_mod_two_pow,Nat.testBit_or]
  by_cases hi:i<c<;>simp [hi]
theorem r_Or (w:Int) (a b:Nat) (ha:W a) (hb:W b):R P f_r01_Or [.int .i64 w,.int .u64 (a:Int),.int .u64 (b:Int)]=some (.int .u64 (((a ||| b) % 2^cw w:Nat):Int)):=by
  have hc:=cw_in w
  have hp:=pow_c hc.2
  have h1:=r_Not w a ha
  have h2:=r_Not w b hb
  have h3:=r_And w (2^cw w-1-a % 2^cw w) (2^cw w-1-b % 2^cw w) (by show _<_;omega) (by show _<_;omega)
  have h4:=r_Not w (((2^cw w-1-a % 2^cw w) &&& (2^cw w-1-b % 2^cw w)) % 2^cw w) (mod_lt64 hc.2 _)
  rw [or_eq] at h4
  (rw [r_r01_Or (lbY rfl),F_r01_Or];simp (disch:=omega) only [eqY,↓gc_len,seval,-List.reduceReplicate,reduceCtorEq,allP,q_r01_Not,h1,h2,q_r01_And,h3,h4])
theorem or_add:∀ (n A B:Nat),A<2^n→B<2^n→(A ||| B)=(A ^^^ B)+(A &&& B)
  | 0,A,B,ha,hb=>by
    have h1:A=0:=by simpa using ha
    have h2:B=0:=by simpa using hb
    subst h1;subst h2;rfl
  | n+1,A,B,ha,hb=>by
    have ih:=or_add n (A / 2) (B / 2) (by rw [Nat.pow_succ] at ha;omega) (by rw [Nat.pow_succ] at hb;omega)
    have e1:=Nat.div_add_mod (A ||| B) 2
    have e2:=Nat.div_add_mod (A ^^^ B) 2
    have e3:=Nat.div_add_mod (A &&& B) 2
    rw [Nat.or_div_two] at e1
    rw [Nat.xor_div_two] at e2
    rw [Nat.and_div_two] at e3
    have m1:=Nat.or_mod_two_pow (a:=A) (b:=B) (n:=1)
    have m2:=Nat.xor_mod_two_pow (a:=A) (b:=B) (n:=1)
    have m3:=Nat.and_mod_two_pow (a:=A) (b:=B) (n:=1)
    rw [Nat.pow_one] at m1 m2 m3
    have key:(A % 2 ||| B % 2)=(A % 2 ^^^ B % 2)+(A % 2 &&& B % 2):=by
      rcases Nat.mod_two_eq_zero_or_one A with h | h<;>rcases Nat.mod_two_eq_zero_or_one B with h' | h'<;>rw [h,h']<;>rfl
    omega
theorem xor_eq {c:Nat} (a b:Nat):(a ||| b) % 2^c-(a &&& b) % 2^c=(a ^^^ b) % 2^c∧(a &&& b) % 2^c≤(a ||| b) % 2^c:=by
  have hp:0<2^c:=Nat.pow_pos (by omega)
  have h:=or_add c (a % 2^c) (b % 2^c) (Nat.mod_lt _ hp) (Nat.mod_lt _ hp)
  rw [← Nat.or_mod_two_pow,← Nat.xor_mod_two_pow,← Nat.and_mod_two_pow] at h
  omega
theorem r_Xor (w:Int) (a b:Nat) (ha:W a) (hb:W b):R P f_r01_Xor [.int .i64 w,.int .u64 (a:Int),.int .u64 (b:Int)]=some (.int .u64 (((a ^^^ b) % 2^cw w:Nat):Int)):=by
  have hc:=cw_in w
  have h1:=r_Or w a b ha hb
  have h2:=r_And w a b ha hb
  have hx:=xor_eq (c:=cw w) a b
  have l1:=mod_lt64 hc.2 (a ||| b)
  have l2:=mod_lt64 hc.2 (a &&& b)
  have e:=n_sub ((a ||| b) % 2^cw w) ((a &&& b) % 2^cw w) (Nat.le_of_lt l2)
  have e2:((a ||| b) % 2^cw w+(18446744073709551616-(a &&& b) % 2^cw w)) % 18446744073709551616=(a ^^^ b) % 2^cw w:=by omega
  rw [e2] at e
  (rw [r_r01_Xor (lbY rfl),F_r01_Xor];simp (disch:=omega) only [eqY,↓gc_len,seval,-List.reduceReplicate,reduceCtorEq,allP,q_r01_Or,h1,q_r01_And,h2,e])
def sumN (a b i:Nat):Nat:=a % 2^i+b % 2^i
theorem mod_step (x k:Nat):x % 2^(k+1)=x % 2^k+bitN x k*2^k:=by
  rw [Nat.mod_pow_succ,Nat.mul_comm];rfl
theorem sum_step (a b i:Nat):sumN a b (i+1)=sumN a b i % 2^i+(bitN a i+bitN b i+sumN a b i / 2^i)*2^i:=by
  unfold sumN
  rw [mod_step,mod_step]
  have h:=Nat.div_add_mod (a % 2^i+b % 2^i) (2^i)
  generalize (a % 2^i+b % 2^i) / 2^i=q at *
  generalize (a % 2^i+b % 2^i) % 2^i=r at *
  rw [Nat.add_mul,Nat.add_mul]
  rw [Nat.mul_comm] at h
  omega
theorem low_div {y s i:Nat} (hy:y<2^i):(y+s*2^i) / 2^(i+1)=s / 2∧(y+s*2^i) % 2^(i+1)=y+s % 2*2^i:=by
  have hp:0<2^i:=Nat.pow_pos (by omega)
  have h1:(y+s*2^i) / 2^i=s:=by rw [Nat.add_mul_div_right _ _ hp,Nat.div_eq_of_lt hy,Nat.zero_add]
  have h2:(y+s*2^i) % 2^i=y:=by rw [Nat.add_mul_mod_self_right,Nat.mod_eq_of_lt hy]
  refine ⟨by rw [Nat.pow_succ,← Nat.div_div_eq_div_mul,h1],?_⟩
  rw [mod_step,h2]
  unfold bitN
  rw [h1]
theorem or_low {y i:Nat} (hy:y<2^i) (b:Nat):y ||| (b*2^i)=y+b*2^i:=by
  rw [Nat.or_comm,Nat.mul_comm,← Nat.two_pow_add_eq_or_of_lt hy,Nat.add_comm]
abbrev e_rAd (a b y k c i:Nat):List (Nat×AV):=[(1,.p (.int .u64 a)),(2,.p (.int .u64 b)),(7,.p (.int .u64 y)),(8,.p (.int .u64 k)),(12,.p (.int .i64 c)),(13,.p (.int .i64 i))]
theorem rem_2 (s:Nat):arithV .rem (.p (.int .u64 (s:Int))) (.p (.int .u64 2))=some (.p (.int .u64 ((s % 2:Nat):Int))):=n_rem (b:=2) (by omega)
theorem quo_2 {s:Nat} (h:W s):arithV .quo (.p (.int .u64 (s:Int))) (.p (.int .u64 2))=some (.p (.int .u64 ((s / 2:Nat):Int))):=n_quo (b:=2) (by omega) h
set_option maxHeartbeats 1000000 in
theorem r_Add (w:Int) (a b:Nat) (ha:W a) (hb:W b):R P f_r01_Add [.int .i64 w,.int .u64 (a:Int),.int .u64 (b:Int)]=some (.int .u64 (((a+b) % 2^cw w:Nat):Int)):=by
  have hc:=cw_in w
  have h1:=n_W w
  obtain ⟨_,h⟩:=loop_run (P:=P) (nt:=36) (lv:=[1,2,7,8,12,13]) (b:=B0_r01_Add) (rd:=none) (as:=List.range (cw w)) (fun i (_:Unit)=>e_rAd a b (sumN a b i % 2^i) (sumN a b i / 2^i) (cw w) i) (fun _=>[]) (fun _ _ _=>()) (fun _ _=>True)
    (fun i _ s _ hi hs=>by
      refine ⟨trivial,?_⟩
      have hi':i<cw w:=by simpa using hi
      have hlt:((i:Int)<((cw w:Nat):Int))=True:=by simpa using hi'
      have b1:=n_Bit a i (by omega) ha
      have b2:=n_Bit b i (by omega) hb
      have hcv:=cv_64 (i:=i) (by omega)
      have hp0:0<2^i:=Nat.pow_pos (by omega)
      have hp:=pow_lt (i:=i) (by omega)
      have l1:=bit_lt a i
      have l2:=bit_lt b i
      have hy:sumN a b i % 2^i<2^i:=Nat.mod_lt _ hp0
      have hk:sumN a b i / 2^i<2:=by
        rw [Nat.div_lt_iff_lt_mul hp0]
        unfold sumN
        have:=Nat.mod_lt a hp0
        have:=Nat.mod_lt b hp0
        omega
      have hst:=sum_step a b i
      have hld:=low_div (s:=bitN a i+bitN b i+sumN a b i / 2^i) hy
      rw [← hst] at hld
      have ho:=or_low hy ((bitN a i+bitN b i+sumN a b i / 2^i) % 2)
      have hsl:(bitN a i+bitN b i+sumN a b i / 2^i) % 2*2^i<18446744073709551616:=by
        rcases Nat.mod_two_eq_zero_or_one (bitN a i+bitN b i+sumN a b i / 2^i) with e | e<;>rw [e]<;>omega
      have a1:=n_add (bitN a i) (bitN b i)
      have a2:=n_add (bitN a i+bitN b i) (sumN a b i / 2^i)
      rw [Nat.mod_eq_of_lt (by omega)] at a1 a2
      have s1:=rem_2 (bitN a i+bitN b i+sumN a b i / 2^i)
      have s2:=quo_2 (s:=bitN a i+bitN b i+sumN a b i / 2^i) (by show _<_;omega)
      have s3:=n_shl (k:=.u64) (a:=(bitN a i+bitN b i+sumN a b i / 2^i) % 2) (n:=i) (by omega)
      rw [Nat.mod_eq_of_lt hsl] at s3
      have s4:=n_or (a:=sumN a b i % 2^i) (b:=(bitN a i+bitN b i+sumN a b i / 2^i) % 2*2^i) (by omega) hsl
      rw [ho] at s4
      rw [hld.1,hld.2]
      simp only [B0_r01_Add]
      simp (disch:=omega) only [eqY,↓gc_len,seval,-List.reduceReplicate,reduceCtorEq,allP,hlt,q_r01_Bit,b1,b2,a1,a2,hcv,s1,s2,s3,s4,e_rAd]) (fun i s=>rfl) () trivial () (foldU _ 0)
  rw [List.length_range] at h
  have hz:sumN a b 0=0:=by simp [sumN,Nat.mod_one]
  rw [hz] at h
  have h':loopAt P L0_r01_Add [(1,.p (.int .u64 (a:Int))),(2,.p (.int .u64 (b:Int))),(7,.p (.int .u64 0)),(8,.p (.int .u64 0)),(12,.p (.int .i64 ((cw w:Nat):Int))),(13,.p (.int .i64 0))] [] 36 none=_:=h
  have he:sumN a b (cw w) % 2^cw w=(a+b) % 2^cw w:=by unfold sumN;rw [← Nat.add_mod]
  rw [he] at h'
  (rw [r_r01_Add (lbY rfl),F_r01_Add];simp (disch:=omega) only [eqY,↓gc_len,seval,-List.reduceReplicate,reduceCtorEq,allP,q_r01_W,h1,k0_r01_Add,h',B0_r01_Add,Int.lt_irrefl,e_rAd])
theorem r_Neg (w:Int) (a:Nat) (ha:W a):R P f_r01_Neg [.int .i64 w,.int .u64 (a:Int)]=some (.int .u64 (((18446744073709551616-a) % 2^cw w:Nat):Int)):=by
  have hc:=cw_in w
  have hp:=pow_c hc.2
  have hp0:0<2^cw w:=Nat.pow_pos (by omega)
  have h1:=r_Not w a ha
  have h2:=r_Add w (2^cw w-1-a % 2^cw w) 1 (by show _<_;omega) (by show _<_;omega)
  have e:(2^cw w-1-a % 2^cw w+1) % 2^cw w=(18446744073709551616-a) % 2^cw w:=by
    rw [← not_eq hc.2 ha,show 18446744073709551616-a=18446744073709551615-a+1 by have:a<18446744073709551616:=ha;omega,Nat.add_mod (18446744073709551615-a),Nat.add_mod ((18446744073709551615-a) % 2^cw w),Nat.mod_mod]
  rw [e] at h2
  have h2':R P f_r01_Add [.int .i64 w,.int .u64 ((2^cw w-1-a % 2^cw w:Nat):Int),.int .u64 1]=_:=h2
  (rw [r_r01_Neg (lbY rfl),F_r01_Neg];simp (disch:=omega) only [eqY,↓gc_len,seval,-List.reduceReplicate,reduceCtorEq,allP,q_r01_Not,h1,q_r01_Add,h2'])
theorem r_Sub (w:Int) (a b:Nat) (ha:W a) (hb:W b):R P f_r01_Sub [.int .i64 w,.int .u64 (a:Int),.int .u64 (b:Int)]=some (.int .u64 (((a+(18446744073709551616-b)) % 2^cw w:Nat):Int)):=by
  have hc:=cw_in w
  have h1:=r_Neg w b hb
  have h2:=r_Add w a ((18446744073709551616-b) % 2^cw w) ha (mod_lt64 hc.2 _)
  rw [Nat.add_mod_mod] at h2
  (rw [r_r01_Sub (lbY rfl),F_r01_Sub];simp (disch:=omega) only [eqY,↓gc_len,seval,-List.reduceReplicate,reduceCtorEq,allP,q_r01_Neg,h1,q_r01_Add,h2])
abbrev e_rMl (w:Int) (a b y:Nat) (i:Int):List (Nat×AV):=[(0,.p (.int .i64 w)),(1,.p (.int .u64 a)),(2,.p (.int .u64 b)),(7,.p (.int .u64 y)),(8,.p (.int .i64 i))]
theorem hi_step (b k:Nat):b / 2^k=2*(b / 2^(k+1))+bitN b k:=by
  unfold bitN
  rw [Nat.pow_succ,← Nat.div_div_eq_div_mul]
  omega
theorem bit_mod {c k:Nat} (h:k<c) (b:Nat):bitN (b % 2^c) k=bitN b k:=by
  have h1:=Nat.testBit_mod_two_pow b c k
  rw [bit_test,bit_test] at h1
  simp only [h,decide_true,Bool.true_and] at h1
  have l1:=bit_lt (b % 2^c) k
  have l2:=bit_lt b k
  by_cases h2:bitN b k=1
  · rw [h2] at h1;simp at h1;rw [h1,h2]
  · have:¬ bitN (b % 2^c) k=1:=fun h3=>by rw [h3] at h1;simp at h1;exact h2 h1
    omega
set_option maxHeartbeats 1000000 in
theorem r_Mul (w:Int) (a b:Nat) (ha:W a) (hb:W b):R P f_r01_Mul [.int .i64 w,.int .u64 (a:Int),.int .u64 (b:Int)]=some (.int .u64 (((a*b) % 2^cw w:Nat):Int)):=by
  have hc:=cw_in w
  have h1:=n_W w
  have hw:IntKind.i64.wrap (((cw w:Nat):Int)-1)=((cw w:Nat):Int)-1:=IntWalk.i64_in _ (by omega)
  obtain ⟨_,h⟩:=loop_run (P:=P) (nt:=29) (lv:=[0,1,2,7,8]) (b:=B0_r01_Mul) (rd:=none) (as:=List.range (cw w)) (fun i (_:Unit)=>e_rMl w a b (a*(b % 2^cw w / 2^(cw w-i)) % 2^cw w) (((cw w:Nat):Int)-1-i)) (fun _=>[]) (fun _ _ _=>()) (fun _ _=>True)
    (fun i _ s _ hi hs=>by
      refine ⟨trivial,?_⟩
      have hi':i<cw w:=by simpa using hi
      have hge:((0:Int)≤((cw w:Nat):Int)-1-i)=True:=by simp only [eq_iff_iff,iff_true];omega
      have e1:((cw w:Nat):Int)-1-i=((cw w-(i+1):Nat):Int):=by omega
      have b2:=n_Bit b (cw w-(i+1)) (by omega) hb
      rw [← e1] at b2
      have hst:=hi_step (b % 2^cw w) (cw w-(i+1))
      rw [bit_mod (by omega),show cw w-(i+1)+1=cw w-i by omega] at hst
      have hy:=mod_lt64 hc.2 (a*(b % 2^cw w / 2^(cw w-i)))
      have a1:=r_Add w _ _ hy hy
      have hl:=bit_lt b (cw w-(i+1))
      have e2:((cw w:Nat):Int)-1-((i+1:Nat):Int)=((cw w:Nat):Int)-1-i-1:=by omega
      have hw1:IntKind.i64.wrap (((cw w:Nat):Int)-1-i-1)=((cw w:Nat):Int)-1-i-1:=IntWalk.i64_in _ (by omega)
      have hd:(a*(b % 2^cw w / 2^(cw w-i)) % 2^cw w+a*(b % 2^cw w / 2^(cw w-i)) % 2^cw w) % 2^cw w=a*(2*(b % 2^cw w / 2^(cw w-i))) % 2^cw w:=by
        rw [← Nat.add_mod];congr 1;rw [← Nat.mul_add];congr 1;omega
      rw [hd] at a1
      rw [hst]
      simp only [e_rMl,e2]
      generalize b % 2^cw w / 2^(cw w-i)=q at *
      rcases (show bitN b (cw w-(i+1))=0∨bitN b (cw w-(i+1))=1 by omega) with e | e
      · rw [e] at b2 ⊢
        have hz:(((0:Nat):Int)=1)=False:=by simp
        rw [Nat.add_zero]
        simp only [B0_r01_Mul]
        simp (disch:=omega) only [eqY,↓gc_len,seval,-List.reduceReplicate,reduceCtorEq,allP,ge_iff_le,hge,q_r01_Add,a1,q_r01_Bit,b2,hz,hw1]
      · rw [e] at b2 ⊢
        have hz:(((1:Nat):Int)=1)=True:=by simp
        have a2:=r_Add w (a*(2*q) % 2^cw w) a (mod_lt64 hc.2 _) ha
        rw [Nat.mod_add_mod,show a*(2*q)+a=a*(2*q+1) by rw [Nat.mul_add,Nat.mul_one]] at a2
        simp only [B0_r01_Mul]
        simp (disch:=omega) only [eqY,↓gc_len,seval,-List.reduceReplicate,reduceCtorEq,allP,ge_iff_le,hge,q_r01_Add,a1,q_r01_Bit,b2,hz,a2,hw1]) (fun i s=>rfl) () trivial () (foldU _ 0)
  rw [List.length_range] at h
  have hz:a*(b % 2^cw w / 2^(cw w-0)) % 2^cw w=0:=by rw [Nat.sub_zero,Nat.div_eq_of_lt (Nat.mod_lt _ (Nat.pow_pos (by omega)))];simp
  have hn:a*(b % 2^cw w / 2^(cw w-cw w)) % 2^cw w=(a*b) % 2^cw w:=by rw [Nat.sub_self,Nat.pow_zero,Nat.div_one,Nat.mul_mod_mod]
  have e0:((cw w:Nat):Int)-1-((0:Nat):Int)=((cw w:Nat):Int)-1:=by omega
  have e9:((cw w:Nat):Int)-1-((cw w:Nat):Int) = -1:=by omega
  simp only [e_rMl] at h
  rw [hz,hn,e0,e9] at h
  have h':loopAt P L0_r01_Mul [(0,.p (.int .i64 w)),(1,.p (.int .u64 (a:Int))),(2,.p (.int .u64 (b:Int))),(7,.p (.int .u64 0)),(8,.p (.int .i64 (((cw w:Nat):Int)-1)))] [] 29 none=_:=h
  have hge:((0:Int) ≤ -1)=False:=by simp
  (rw [r_r01_Mul (lbY rfl),F_r01_Mul];simp (disch:=omega) only [eqY,↓gc_len,seval,-List.reduceReplicate,reduceCtorEq,allP,q_r01_W,h1,hw,k0_r01_Mul,h',B0_r01_Mul,ge_iff_le,hge])
abbrev e_rD (a b q r:Nat) (i:Int):List (Nat×AV):=[(0,.p (.int .u64 a)),(1,.p (.int .u64 b)),(6,.p (.int .u64 q)),(7,.p (.int .u64 r)),(8,.p (.int .i64 i))]
def dq (a b k:Nat):Nat:=a / 2^k / b*2^k
def dr (a b k:Nat):Nat:=a / 2^k % b
theorem d_step {a b k:Nat} (hb:0<b):(if b≤2*dr a b (k+1)+bitN a k then dq a b k=dq a b (k+1)+2^k∧dr a b k=2*dr a b (k+1)+bitN a k-b else dq a b k=dq a b (k+1)∧dr a b k=2*dr a b (k+1)+bitN a k):=by
  unfold dq dr
  rw [hi_step a k]
  have hd:=Nat.div_add_mod (a / 2^(k+1)) b
  have hr:a / 2^(k+1) % b<b:=Nat.mod_lt _ hb
  have hl:=bit_lt a k
  generalize a / 2^(k+1) / b=Q at *
  generalize a / 2^(k+1) % b=r at *
  rw [← hd]
  generalize bitN a k=t at *
  rw [Nat.pow_succ]
  split
  · rename_i h
    have e:2*(b*Q+r)+t=(2*r+t-b)+b*(2*Q+1):=by rw [Nat.mul_add,Nat.mul_add,Nat.mul_one,← Nat.mul_assoc,Nat.mul_comm 2 b,Nat.mul_assoc];omega
    rw [e,Nat.add_mul_div_left _ _ hb,Nat.add_mul_mod_self_left,Nat.div_eq_of_lt (by omega),Nat.mod_eq_of_lt (by omega),Nat.zero_add]
    refine ⟨?_,rfl⟩
    rw [Nat.add_mul,Nat.one_mul,Nat.mul_comm 2 Q,Nat.mul_assoc,Nat.mul_comm 2]
  · rename_i h
    have e:2*(b*Q+r)+t=(2*r+t)+b*(2*Q):=by rw [Nat.mul_add,← Nat.mul_assoc,Nat.mul_comm 2 b,Nat.mul_assoc];omega
    rw [e,Nat.add_mul_div_left _ _ hb,Nat.add_mul_mod_self_left,Nat.div_eq_of_lt (by omega),Nat.mod_eq_of_lt (by omega),Nat.zero_add]
    refine ⟨?_,rfl⟩
    rw [Nat.mul_comm 2 Q,Nat.mul_assoc,Nat.mul_comm 2]
theorem dq_le (a b k:Nat):dq a b k≤a:=by
  unfold dq
  have h1:a / 2^k / b≤a / 2^k:=Nat.div_le_self _ _
  have h2:=Nat.mul_le_mul_right (2^k) h1
  have h3:=Nat.div_mul_le_self a (2^k)
  omega
theorem dq_or (a b k:Nat):dq a b (k+1) ||| 2^k=dq a b (k+1)+2^k:=by
  unfold dq
  have h:2^k<2^(k+1):=Nat.pow_lt_pow_right (by omega) (by omega)
  rw [Nat.mul_comm,← Nat.two_pow_add_eq_or_of_lt h]
theorem top_bit {r:Nat} (h:W r):(bitN r 63=1)=(9223372036854775808≤r):=by
  have hr:r<18446744073709551616:=h
  unfold bitN
  simp only [eq_iff_iff]
  rw [show (2:Nat)^63=9223372036854775808 from rfl]
  omega
set_option maxHeartbeats 2000000 in
theorem r_divide (a b:Nat) (ha:W a) (hb:W b) (h0:0<b):R P f_r01_divide [.int .u64 (a:Int),.int .u64 (b:Int)]=some (.tup [.int .u64 ((a / b:Nat):Int),.int .u64 ((a % b:Nat):Int)]):=by
  obtain ⟨_,h⟩:=loop_run (P:=P) (nt:=39) (lv:=[0,1,6,7,8]) (b:=B0_r01_divide) (rd:=none) (as:=List.range 64) (fun i (_:Unit)=>e_rD a b (dq a b (64-i)) (dr a b (64-i)) (63-i)) (fun _=>[]) (fun _ _ _=>()) (fun _ _=>True)
    (fun i _ s _ hi hs=>by
      refine ⟨trivial,?_⟩
      have hi':i<64:=by simpa using hi
      have hge:((0:Int)≤63-(i:Int))=True:=by simp only [eq_iff_iff,iff_true];omega
      obtain ⟨k,hk⟩:∃ k,64-i=k+1:=⟨63-i,by omega⟩
      have e1:(63:Int)-(i:Int)=(k:Int):=by omega
      have e2:(63:Int)-((i+1:Nat):Int)=(k:Int)-1:=by omega
      have hw1:IntKind.i64.wrap ((k:Int)-1)=(k:Int)-1:=IntWalk.i64_in _ (by omega)
      rw [show 64-(i+1)=k by omega,hk]
      simp only [e_rD,e1,e2] at hge ⊢
      have hr:dr a b (k+1)<b:=Nat.mod_lt _ h0
      have hrW:W (dr a b (k+1)):=by have:b<18446744073709551616:=hb;show _<_;omega
      have hbW:b<18446744073709551616:=hb
      have b1:=n_Bit (dr a b (k+1)) 63 (by omega) hrW
      have b2:=n_Bit a k (by omega) ha
      have ht:=top_bit hrW
      have hs:=d_step (a:=a) (b:=b) (k:=k) h0
      have hq:=dq_le a b (k+1)
      have hor:=dq_or a b k
      have hl:=bit_lt a k
      have m1:=n_mul (dr a b (k+1)) 2
      have m2:=n_add (dr a b (k+1)*2 % 18446744073709551616) (bitN a k)
      have hcv:=cv_64 (i:=k) (by omega)
      have hs1:=shl_1 (i:=k) (k:=.u64) (by omega)
      have hpk:=pow_lt (i:=k) (by omega)
      have ho:=n_or (a:=dq a b (k+1)) (b:=2^k) (Nat.lt_of_le_of_lt hq ha) (by omega)
      rw [hor] at ho
      have m2':((dr a b (k+1)*2 % 18446744073709551616+bitN a k) % 18446744073709551616)=(2*dr a b (k+1)+bitN a k) % 18446744073709551616:=by omega
      rw [m2'] at m2
      have m1':IntKind.u64.wrap (((dr a b (k+1):Nat):Int)*2)=((dr a b (k+1)*2 % 18446744073709551616:Nat):Int):=m1
      have b1':R P f_r01_Bit [.int .u64 ((dr a b (k+1):Nat):Int),.int .i64 63]=_:=b1
      have hsub:=n_sub ((2*dr a b (k+1)+bitN a k) % 18446744073709551616) b (Nat.le_of_lt hbW)
      have hov:(((bitN (dr a b (k+1)) 63:Nat):Int)=1)=(9223372036854775808≤dr a b (k+1)):=by rw [← ht];simp only [eq_iff_iff];omega
      by_cases hov1:9223372036854775808≤dr a b (k+1)
      · have hT:(9223372036854775808≤dr a b (k+1))=True:=by simp [hov1]
        rw [if_pos (by omega)] at hs
        have hsub':((2*dr a b (k+1)+bitN a k) % 18446744073709551616+(18446744073709551616-b)) % 18446744073709551616=2*dr a b (k+1)+bitN a k-b:=by omega
        rw [hsub'] at hsub
        rw [hs.1,hs.2]
        simp only [B0_r01_divide]
        simp (disch:=omega) only [eqY,↓gc_len,seval,-List.reduceReplicate,reduceCtorEq,allP,ge_iff_le,hge,q_r01_Bit,b1',b2,hov,hT,m1',m2,hcv,hs1,ho,hsub,hw1]
      · have hF:(9223372036854775808≤dr a b (k+1))=False:=by simp [hov1]
        by_cases hle:b≤2*dr a b (k+1)+bitN a k
        · have hT:((b:Int)≤(((2*dr a b (k+1)+bitN a k) % 18446744073709551616:Nat):Int))=True:=by simp only [eq_iff_iff,iff_true];omega
          rw [if_pos hle] at hs
          have hsub':((2*dr a b (k+1)+bitN a k) % 18446744073709551616+(18446744073709551616-b)) % 18446744073709551616=2*dr a b (k+1)+bitN a k-b:=by omega
          rw [hsub'] at hsub
          rw [hs.1,hs.2]
          simp only [B0_r01_divide]
          simp (disch:=omega) only [eqY,↓gc_len,seval,-List.reduceReplicate,reduceCtorEq,allP,ge_iff_le,hge,q_r01_Bit,b1',b2,hov,hF,hT,m1',m2,hcv,hs1,ho,hsub,hw1]
        · have hT:((b:Int)≤(((2*dr a b (k+1)+bitN a k) % 18446744073709551616:Nat):Int))=False:=by simp only [eq_iff_iff,iff_false];omega
          rw [if_neg hle] at hs
          have hmod:(2*dr a b (k+1)+bitN a k) % 18446744073709551616=2*dr a b (k+1)+bitN a k:=by omega
          rw [hs.1,hs.2]
          simp only [B0_r01_divide]
          simp (disch:=omega) only [eqY,↓gc_len,seval,-List.reduceReplicate,reduceCtorEq,allP,ge_iff_le,hge,q_r01_Bit,b1',b2,hov,hF,hT,m1',m2,hw1]
          rw [hmod]) (fun i s=>rfl) () trivial () (foldU _ 0)
  rw [List.length_range] at h
  have e64:a / 2^64=0:=Nat.div_eq_of_lt ha
  have q0:dq a b (64-0)=0:=by unfold dq;rw [Nat.sub_zero,e64];simp
  have r0:dr a b (64-0)=0:=by unfold dr;rw [Nat.sub_zero,e64];simp
  have q9:dq a b (64-64)=a / b:=by unfold dq;simp
  have r9:dr a b (64-64)=a % b:=by unfold dr;simp
  simp only [e_rD] at h
  rw [q0,r0,q9,r9] at h
  have h':loopAt P L0_r01_divide [(0,.p (.int .u64 (a:Int))),(1,.p (.int .u64 (b:Int))),(6,.p (.int .u64 0)),(7,.p (.int .u64 0)),(8,.p (.int .i64 63))] [] 39 none=back P [0,1,6,7,8] B0_r01_divide 0 (exec P B0_r01_divide ⟨tm [(0,.p (.int .u64 (a:Int))),(1,.p (.int .u64 (b:Int))),(6,.p (.int .u64 ((a / b:Nat):Int))),(7,.p (.int .u64 ((a % b:Nat):Int))),(8,.p (.int .i64 (-1)))],[],39,none⟩):=h
  have hge:((0:Int) ≤ -1)=False:=by simp
  (rw [r_r01_divide (lbY rfl),F_r01_divide];simp (disch:=omega) only [eqY,↓gc_len,seval,-List.reduceReplicate,reduceCtorEq,allP,k0_r01_divide,h',B0_r01_divide,ge_iff_le,hge])
theorem r_Udiv (w:Int) (a b:Nat) (ha:W a) (hb:W b):R P f_r01_Udiv [.int .i64 w,.int .u64 (a:Int),.int .u64 (b:Int)]=some (.int .u64 ((udivN (cw w) a b:Nat):Int)):=by
  have h1:=n_rCut w a ha
  have h2:=n_rCut w b hb
  have h3:=r_Mask w
  have hc:=cw_in w
  unfold udivN
  by_cases h0:b % 2^cw w=0
  · rw [if_pos h0]
    have hz:(((b % 2^cw w:Nat):Int)=0)=True:=by simp only [eq_iff_iff,iff_true];omega
    (rw [r_r01_Udiv (lbY rfl),F_r01_Udiv];simp (disch:=omega) only [eqY,↓gc_len,seval,-List.reduceReplicate,reduceCtorEq,allP,q_r01_Cut,h2,hz,q_r01_Mask,h3])
  · rw [if_neg h0]
    have hz:(((b % 2^cw w:Nat):Int)=0)=False:=by simp only [eq_iff_iff,iff_false];omega
    have hq:=r_divide (a % 2^cw w) (b % 2^cw w) (mod_lt64 hc.2 _) (mod_lt64 hc.2 _) (by omega)
    (rw [r_r01_Udiv (lbY rfl),F_r01_Udiv];simp (disch:=omega) only [eqY,↓gc_len,seval,-List.reduceReplicate,reduceCtorEq,allP,q_r01_Cut,h1,h2,hz,q_r01_divide,hq])
theorem r_Urem (w:Int) (a b:Nat) (ha:W a) (hb:W b):R P f_r01_Urem [.int .i64 w,.int .u64 (a:Int),.int .u64 (b:Int)]=some (.int .u64 ((uremN (cw w) a b:Nat):Int)):=by
  have h1:=n_rCut w a ha
  have h2:=n_rCut w b hb
  have hc:=cw_in w
  unfold uremN
  by_cases h0:b % 2^cw w=0
  · rw [if_pos h0]
    have hz:(((b % 2^cw w:Nat):Int)=0)=True:=by simp only [eq_iff_iff,iff_true];omega
    (rw [r_r01_Urem (lbY rfl),F_r01_Urem];simp (disch:=omega) only [eqY,↓gc_len,seval,-List.reduceReplicate,reduceCtorEq,allP,q_r01_Cut,h1,h2,hz])
  · rw [if_neg h0]
    have hz:(((b % 2^cw w:Nat):Int)=0)=False:=by simp only [eq_iff_iff,iff_false];omega
    have hq:=r_divide (a % 2^cw w) (b % 2^cw w) (mod_lt64 hc.2 _) (mod_lt64 hc.2 _) (by omega)
    (rw [r_r01_Urem (lbY rfl),F_r01_Urem];simp (disch:=omega) only [eqY,↓gc_len,seval,-List.reduceReplicate,reduceCtorEq,allP,q_r01_Cut,h1,h2,hz,q_r01_divide,hq])
def sumB (f:Nat→Nat):Nat→Nat
  | 0=>0
  | i+1=>sumB f i+f i*2^i
theorem sumB_lt {f:Nat→Nat}:∀ i,(∀ j,j<i→f j<2)→sumB f i<2^i
  | 0,_=>by simp [sumB]
  | i+1,h=>by
    have h1:=sumB_lt i fun j hj=>h j (by omega)
    have h2:=h i (by omega)
    unfold sumB
    rw [Nat.pow_succ]
    rcases (show f i=0∨f i=1 by omega) with e | e<;>rw [e]<;>omega
theorem sumB_eq {f:Nat→Nat} {x:Nat}:∀ c,(∀ j,j<c→f j=bitN x j)→sumB f c=x % 2^c
  | 0,_=>by simp [sumB,Nat.mod_one]
  | c+1,h=>by
    unfold sumB
    rw [mod_step,sumB_eq c fun j hj=>h j (by omega),h c (by omega)]
theorem bit_div (x n i:Nat):bitN (x / 2^n) i=bitN x (i+n):=by
  unfold bitN
  rw [Nat.div_div_eq_div_mul,← Nat.pow_add,Nat.add_comm n i]
theorem bit_big {x c i:Nat} (h:x<2^c) (hi:c≤i):bitN x i=0:=by
  unfold bitN
  rw [Nat.div_eq_of_lt (Nat.lt_of_lt_of_le h (Nat.pow_le_pow_right (by omega) hi))]
theorem bit_hi {q m t i:Nat} (hq:q<2^m):bitN (q+2^m*t) i=if i<m then bitN q i else bitN t (i-m):=by
  split
  · rename_i h
    have h1:=bit_mod h (q+2^m*t)
    rw [Nat.add_mul_mod_self_left,Nat.mod_eq_of_lt hq] at h1
    exact h1.symm
  · rename_i h
    have h1:=bit_div (q+2^m*t) m (i-m)
    rw [show i-m+m=i by omega,Nat.add_mul_div_left _ _ (Nat.pow_pos (by omega)),Nat.div_eq_of_lt hq,Nat.zero_add] at h1
    exact h1.symm
theorem bit_ones {n i:Nat} (h:i<n):bitN (2^n-1) i=1:=by
  have h1:=Nat.testBit_two_pow_sub_one n i
  rw [bit_test] at h1
  simp only [h,decide_true] at h1
  exact of_decide_eq_true h1
theorem bit_shl {x n i:Nat}:bitN (x*2^n) i=if i<n then 0 else bitN x (i-n):=by
  have h:=bit_hi (q:=0) (m:=n) (t:=x) (i:=i) (Nat.pow_pos (by omega))
  rw [Nat.zero_add,Nat.mul_comm] at h
  rw [h]
  have h0:bitN 0 i=0:=by simp [bitN]
  rw [h0]
def shB (c a:Nat) (by':Int) (fill i:Nat):Nat:=if (i:Int)+by'<c then (if (i:Int)+by'<0 then 0 else bitN a ((i:Int)+by').toNat) else fill
theorem shB_lt {c a fill i:Nat} {by':Int} (hf:fill<2):shB c a by' fill i<2:=by
  unfold shB
  split
  · split
    · omega
    · exact bit_lt _ _
  · exact hf
abbrev e_rS (w:Int) (a:Nat) (by':Int) (fill y c i:Nat):List (Nat×AV):=[(0,.p (.int .i64 w)),(1,.p (.int .u64 a)),(2,.p (.int .i64 by')),(3,.p (.int .u64 fill)),(9,.p (.int .u64 y)),(13,.p (.int .i64 c)),(14,.p (.int .i64 i))]
set_option maxHeartbeats 1000000 in
theorem r_shift (w:Int) (a:Nat) (by':Int) (fill:Nat) (ha:W a) (hb : -64≤by'∧by'≤64) (hf:fill<2):R P f_r01_shift [.int .i64 w,.int .u64 (a:Int),.int .i64 by',.int .u64 (fill:Int)]=some (.int .u64 ((sumB (shB (cw w) a by' fill) (cw w):Nat):Int)):=by
  have hc:=cw_in w
  have h1:=n_W w
  obtain ⟨_,h⟩:=loop_run (P:=P) (nt:=37) (lv:=[0,1,2,3,9,13,14]) (b:=B0_r01_shift) (rd:=none) (as:=List.range (cw w)) (fun i (_:Unit)=>e_rS w a by' fill (sumB (shB (cw w) a by' fill) i) (cw w) i) (fun _=>[]) (fun _ _ _=>()) (fun _ _=>True)
    (fun i _ s _ hi hs=>by
      refine ⟨trivial,?_⟩
      have hi':i<cw w:=by simpa using hi
      have hlt:((i:Int)<((cw w:Nat):Int))=True:=by simpa using hi'
      have hcv:=cv_64 (i:=i) (by omega)
      have hpk:=pow_lt (i:=i) (by omega)
      have hy:=sumB_lt (f:=shB (cw w) a by' fill) i fun j _=>shB_lt hf
      have hl:=shB_lt (c:=cw w) (a:=a) (by':=by') (fill:=fill) (i:=i) hf
      have ho:=or_low hy (shB (cw w) a by' fill i)
      have hsl:shB (cw w) a by' fill i*2^i<18446744073709551616:=by
        rcases (show shB (cw w) a by' fill i=0∨shB (cw w) a by' fill i=1 by omega) with e | e<;>rw [e]<;>omega
      have s3:=n_shl (k:=.u64) (a:=shB (cw w) a by' fill i) (n:=i) (by omega)
      rw [Nat.mod_eq_of_lt hsl] at s3
      have s4:=n_or (a:=sumB (shB (cw w) a by' fill) i) (b:=shB (cw w) a by' fill i*2^i) (by omega) hsl
      rw [ho] at s4
      have hw:IntKind.i64.wrap ((i:Int)+by')=(i:Int)+by':=IntWalk.i64_in _ (by omega)
      have hnext:sumB (shB (cw w) a by' fill) (i+1)=sumB (shB (cw w) a by' fill) i+shB (cw w) a by' fill i*2^i:=rfl
      rw [hnext]
      by_cases hin:(i:Int)+by'<((cw w:Nat):Int)
      · have hT:((i:Int)+by'<((cw w:Nat):Int))=True:=by simp [hin]
        have hb1:R P f_r01_Bit [.int .u64 (a:Int),.int .i64 ((i:Int)+by')]=some (.int .u64 ((shB (cw w) a by' fill i:Nat):Int)):=by
          unfold shB
          rw [if_pos hin]
          by_cases h0:(i:Int)+by'<0
          · rw [if_pos h0,n_Bit0 a _ (.inl h0)];rfl
          · rw [if_neg h0]
            have e:=n_Bit a ((i:Int)+by').toNat (by omega) ha
            rw [Int.toNat_of_nonneg (by omega)] at e
            exact e
        generalize shB (cw w) a by' fill i=B at *
        simp only [B0_r01_shift]
        simp (disch:=omega) only [eqY,↓gc_len,seval,-List.reduceReplicate,reduceCtorEq,allP,hlt,hw,q_r01_W,h1,hT,q_r01_Bit,hb1,hcv,s3,s4,e_rS]
      · have hT:((i:Int)+by'<((cw w:Nat):Int))=False:=by simp only [eq_iff_iff,iff_false];exact hin
        have hb1:shB (cw w) a by' fill i=fill:=by unfold shB;rw [if_neg hin]
        rw [hb1] at s3 s4 ⊢
        simp only [B0_r01_shift]
        simp (disch:=omega) only [eqY,↓gc_len,seval,-List.reduceReplicate,reduceCtorEq,allP,hlt,hw,q_r01_W,h1,hT,hcv,s3,s4,e_rS]) (fun i s=>rfl) () trivial () (foldU _ 0)
  rw [List.length_range] at h
  have h':loopAt P L0_r01_shift [(0,.p (.int .i64 w)),(1,.p (.int .u64 (a:Int))),(2,.p (.int .i64 by')),(3,.p (.int .u64 (fill:Int))),(9,.p (.int .u64 0)),(13,.p (.int .i64 ((cw w:Nat):Int))),(14,.p (.int .i64 0))] [] 37 none=_:=h
  (rw [r_r01_shift (lbY rfl),F_r01_shift];simp (disch:=omega) only [eqY,↓gc_len,seval,-List.reduceReplicate,reduceCtorEq,allP,q_r01_W,h1,k0_r01_shift,h',B0_r01_shift,Int.lt_irrefl,e_rS])
theorem lshr_bits {c a n:Nat} (hc:c≤64):sumB (shB c a ((min n 64:Nat):Int) 0) c=if c≤n then 0 else a % 2^c / 2^n:=by
  split
  · rename_i h
    rw [sumB_eq (x:=0) c fun j hj=>?_]
    · simp
    · unfold shB
      rw [if_neg (by omega)]
      simp [bitN]
  · rename_i h
    have hm:a % 2^c<2^c:=Nat.mod_lt _ (Nat.pow_pos (by omega))
    rw [sumB_eq (x:=a % 2^c / 2^n) c fun j hj=>?_,Nat.mod_eq_of_lt (Nat.lt_of_le_of_lt (Nat.div_le_self _ _) hm)]
    rw [bit_div]
    unfold shB
    by_cases hj2:j+n<c
    · rw [if_pos (by omega),if_neg (by omega),bit_mod hj2,show ((j:Int)+((min n 64:Nat):Int)).toNat=j+n by omega]
    · rw [if_neg (by omega),bit_big hm (by omega)]
theorem shl_bits {c a n:Nat} (hc:c≤64):sumB (shB c a (-((min n 64:Nat):Int)) 0) c=if c≤n then 0 else (a % 2^c*2^n) % 2^c:=by
  split
  · rename_i h
    rw [sumB_eq (x:=0) c fun j hj=>?_]
    · simp
    · unfold shB
      rw [if_pos (by omega),if_pos (by omega)]
      simp [bitN]
  · rename_i h
    rw [sumB_eq (x:=a % 2^c*2^n) c fun j hj=>?_]
    rw [bit_shl]
    unfold shB
    rw [if_pos (by omega)]
    by_cases hj2:j<n
    · rw [if_pos (by omega),if_pos hj2]
    · rw [if_neg (by omega),if_neg hj2,bit_mod (by omega),show ((j:Int) + -((min n 64:Nat):Int)).toNat=j-n by omega]
theorem ashr_bits {c a n:Nat} (hc:c≤64):sumB (shB c a ((min n 64:Nat):Int) 1) c=if c≤n then 2^c-1 else a % 2^c / 2^n+(2^c-2^(c-n)):=by
  split
  · rename_i h
    have hp:0<2^c:=Nat.pow_pos (by omega)
    rw [sumB_eq (x:=2^c-1) c fun j hj=>?_,Nat.mod_eq_of_lt (by omega)]
    unfold shB
    rw [if_neg (by omega),bit_ones hj]
  · rename_i h
    have hm:a % 2^c<2^c:=Nat.mod_lt _ (Nat.pow_pos (by omega))
    have hs:=pow_sub_mul (c:=c) (n:=n) (by omega)
    have hr:a % 2^c / 2^n<2^(c-n):=by rw [Nat.div_lt_iff_lt_mul (Nat.pow_pos (by omega)),hs];exact hm
    have hle:2^(c-n)≤2^c:=Nat.pow_le_pow_right (by omega) (by omega)
    have e:a % 2^c / 2^n+(2^c-2^(c-n))=a % 2^c / 2^n+2^(c-n)*(2^n-1):=by rw [Nat.mul_sub,hs,Nat.mul_one]
    rw [sumB_eq (x:=a % 2^c / 2^n+(2^c-2^(c-n))) c fun j hj=>?_,Nat.mod_eq_of_lt (by omega)]
    rw [e,bit_hi hr,bit_div]
    unfold shB
    by_cases hj2:j+n<c
    · rw [if_pos (by omega),if_neg (by omega),if_pos (by omega),bit_mod hj2,show ((j:Int)+((min n 64:Nat):Int)).toNat=j+n by omega]
    · rw [if_neg (by omega),if_neg (by omega),bit_ones (by omega)]
theorem r_Shl (w:Int) (a b:Nat) (ha:W a) (hb:W b):R P f_r01_Shl [.int .i64 w,.int .u64 (a:Int),.int .u64 (b:Int)]=some (.int .u64 ((shlN (cw w) a b:Nat):Int)):=by
  have hc:=cw_in w
  have h1:=r_by w b hb
  have hw:IntKind.i64.wrap (0-((min (b % 2^cw w) 64:Nat):Int)) = -((min (b % 2^cw w) 64:Nat):Int):=by rw [IntWalk.i64_in _ (by omega)];omega
  have h2:=r_shift w a (-((min (b % 2^cw w) 64:Nat):Int)) 0 ha (by omega) (by omega)
  rw [shl_bits hc.2] at h2
  have h2':R P f_r01_shift [.int .i64 w,.int .u64 (a:Int),.int .i64 (-((min (b % 2^cw w) 64:Nat):Int)),.int .u64 0]=_:=h2
  unfold shlN
  (rw [r_r01_Shl (lbY rfl),F_r01_Shl];simp (disch:=omega) only [eqY,↓gc_len,seval,-List.reduceReplicate,reduceCtorEq,allP,q_r01_by,h1,hw,q_r01_shift,h2'])
theorem r_Lshr (w:Int) (a b:Nat) (ha:W a) (hb:W b):R P f_r01_Lshr [.int .i64 w,.int .u64 (a:Int),.int .u64 (b:Int)]=some (.int .u64 ((lshrN (cw w) a b:Nat):Int)):=by
  have hc:=cw_in w
  have h1:=r_by w b hb
  have h2:=r_shift w a ((min (b % 2^cw w) 64:Nat):Int) 0 ha (by omega) (by omega)
  rw [lshr_bits hc.2] at h2
  have h2':R P f_r01_shift [.int .i64 w,.int .u64 (a:Int),.int .i64 ((min (b % 2^cw w) 64:Nat):Int),.int .u64 0]=_:=h2
  unfold lshrN
  (rw [r_r01_Lshr (lbY rfl),F_r01_Lshr];simp (disch:=omega) only [eqY,↓gc_len,seval,-List.reduceReplicate,reduceCtorEq,allP,q_r01_by,h1,q_r01_shift,h2'])
theorem r_Ashr (w:Int) (a b:Nat) (ha:W a) (hb:W b):R P f_r01_Ashr [.int .i64 w,.int .u64 (a:Int),.int .u64 (b:Int)]=some (.int .u64 ((ashrN (cw w) a b:Nat):Int)):=by
  have hc:=cw_in w
  have h1:=r_by w b hb
  have h4:=n_W w
  have hw:IntKind.i64.wrap (((cw w:Nat):Int)-1)=((cw w-1:Nat):Int):=by rw [IntWalk.i64_in _ (by omega)];omega
  have h5:=n_Bit a (cw w-1) (by omega) ha
  have hbit:=bit_half hc.1 a
  have hlt:=bit_lt a (cw w-1)
  have h2:=r_shift w a ((min (b % 2^cw w) 64:Nat):Int) (bitN a (cw w-1)) ha (by omega) hlt
  have e:sumB (shB (cw w) a ((min (b % 2^cw w) 64:Nat):Int) (bitN a (cw w-1))) (cw w)=ashrN (cw w) a b:=by
    unfold ashrN
    by_cases hs:a % 2^cw w<2^(cw w-1)
    · have h0:bitN a (cw w-1)=0:=by
        have:¬ bitN a (cw w-1)=1:=fun e=>hbit.1 e hs
        omega
      rw [h0,lshr_bits hc.2,if_pos hs]
      rfl
    · rw [hbit.2 hs,ashr_bits hc.2,if_neg hs]
  rw [e] at h2
  (rw [r_r01_Ashr (lbY rfl),F_r01_Ashr];simp (disch:=omega) only [eqY,↓gc_len,seval,-List.reduceReplicate,reduceCtorEq,allP,q_r01_by,h1,q_r01_W,h4,hw,q_r01_Bit,h5,q_r01_shift,h2])
theorem ext_step {f:Nat→Nat} (hf:∀ j,f j<2) {i:Nat} (hi:i<64):arithV .shl (.p (.int .u64 ((f i:Nat):Int))) (.p (.int .u64 (i:Int)))=some (.p (.int .u64 ((f i*2^i:Nat):Int)))∧arithV .or (.p (.int .u64 ((sumB f i:Nat):Int))) (.p (.int .u64 ((f i*2^i:Nat):Int)))=some (.p (.int .u64 ((sumB f (i+1):Nat):Int))):=by
  have hpk:=pow_lt hi
  have hy:=sumB_lt (f:=f) i fun j _=>hf j
  have hsl:f i*2^i<18446744073709551616:=by
    have:=hf i
    rcases (show f i=0∨f i=1 by omega) with e | e<;>rw [e]<;>omega
  have s3:=n_shl (k:=.u64) (a:=f i) (n:=i) (by omega)
  rw [Nat.mod_eq_of_lt hsl] at s3
  have s4:=n_or (a:=sumB f i) (b:=f i*2^i) (by omega) hsl
  rw [or_low hy] at s4
  exact ⟨s3,s4⟩
abbrev e_rX (low:Int) (x y c i:Nat):List (Nat×AV):=[(0,.p (.int .i64 low)),(2,.p (.int .u64 x)),(7,.p (.int .u64 y)),(16,.p (.int .i64 c)),(17,.p (.int .i64 i))]
def exB (low x i:Nat):Nat:=if low+i≤63 then bitN x (low+i) else 0
theorem exB_lt (low x i:Nat):exB low x i<2:=by unfold exB;split;exact bit_lt _ _;omega
set_option maxHeartbeats 1000000 in
theorem r_Extract (low w:Int) (x:Nat) (hx:W x) (hlo:low≤9223372036854775807):R P f_r01_Extract [.int .i64 low,.int .i64 w,.int .u64 (x:Int)]=some (.int .u64 ((extractN low (cw w) x:Nat):Int)):=by
  have hc:=cw_in w
  have h1:=n_W w
  unfold extractN
  by_cases h0:low<0
  · have hz:(low<0)=True:=by simp [h0]
    rw [if_pos h0]
    (rw [r_r01_Extract (lbY rfl),F_r01_Extract];simp (disch:=omega) only [eqY,↓gc_len,seval,-List.reduceReplicate,reduceCtorEq,allP,hz])
  have hz:(low<0)=False:=by simp [h0]
  rw [if_neg h0]
  by_cases h63:63<low
  · have hz2:((63:Int)<low)=True:=by simp [h63]
    have e:min low.toNat 64=64:=by omega
    rw [e,Nat.div_eq_of_lt hx,Nat.zero_mod]
    (rw [r_r01_Extract (lbY rfl),F_r01_Extract];simp (disch:=omega) only [eqY,↓gc_len,seval,-List.reduceReplicate,reduceCtorEq,allP,hz,hz2])
  have hz2:((63:Int)<low)=False:=by simp only [eq_iff_iff,iff_false];exact h63
  obtain ⟨l,rfl⟩:=Int.eq_ofNat_of_zero_le (show 0≤low by omega)
  obtain ⟨_,h⟩:=loop_run (P:=P) (nt:=32) (lv:=[0,2,7,16,17]) (b:=B0_r01_Extract) (rd:=none) (as:=List.range (cw w)) (fun i (_:Unit)=>e_rX l x (sumB (exB l x) i) (cw w) i) (fun _=>[]) (fun _ _ _=>()) (fun _ _=>True)
    (fun i _ s _ hi hs=>by
      refine ⟨trivial,?_⟩
      have hi':i<cw w:=by simpa using hi
      have hlt:((i:Int)<((cw w:Nat):Int))=True:=by simpa using hi'
      have hcv:=cv_64 (i:=i) (by omega)
      obtain ⟨s3,s4⟩:=ext_step (f:=exB l x) (exB_lt l x) (i:=i) (by omega)
      have hw2:IntKind.i64.wrap ((l:Int)+(i:Int))=((l+i:Nat):Int):=by rw [IntWalk.i64_in _ (by omega)];omega
      have hb1:R P f_r01_Bit [.int .u64 (x:Int),.int .i64 ((l+i:Nat):Int)]=some (.int .u64 ((exB l x i:Nat):Int)):=by
        unfold exB
        by_cases h9:l+i≤63
        · rw [if_pos h9];exact n_Bit x (l+i) (by omega) hx
        · rw [if_neg h9,n_Bit0 x _ (.inr (by omega))];rfl
      generalize sumB (exB l x) (i+1)=B at *
      generalize exB l x i=C at *
      simp only [B0_r01_Extract]
      simp (disch:=omega) only [eqY,↓gc_len,seval,-List.reduceReplicate,reduceCtorEq,allP,hlt,hw2,q_r01_Bit,hb1,hcv,s3,s4,e_rX]) (fun i s=>rfl) () trivial () (foldU _ 0)
  rw [List.length_range] at h
  have h':loopAt P L0_r01_Extract [(0,.p (.int .i64 (l:Int))),(2,.p (.int .u64 (x:Int))),(7,.p (.int .u64 0)),(16,.p (.int .i64 ((cw w:Nat):Int))),(17,.p (.int .i64 0))] [] 32 none=_:=h
  have he:sumB (exB l x) (cw w)=x / 2^min (l:Int).toNat 64 % 2^cw w:=by
    refine sumB_eq (cw w) fun j hj=>?_
    rw [bit_div,show min (l:Int).toNat 64=l by omega,Nat.add_comm j l]
    unfold exB
    split
    · rfl
    · rw [bit_big (c:=64) hx (by omega)]
  rw [← he]
  (rw [r_r01_Extract (lbY rfl),F_r01_Extract];simp (disch:=omega) only [eqY,↓gc_len,seval,-List.reduceReplicate,reduceCtorEq,allP,hz,hz2,q_r01_W,h1,k0_r01_Extract,h',B0_r01_Extract,Int.lt_irrefl,e_rX])
abbrev e_rSx (wf:Int) (x y c i:Nat):List (Nat×AV):=[(0,.p (.int .i64 wf)),(2,.p (.int .u64 x)),(7,.p (.int .u64 y)),(10,.p (.int .i64 c)),(11,.p (.int .i64 i))]
def sxB (cf x i:Nat):Nat:=bitN x (min i (cf-1))
theorem sext_bits {cf ct x:Nat} (hf:1≤cf∧cf≤64) (ht:ct≤64):sumB (sxB cf x) ct=sextN cf ct x:=by
  unfold sextN
  have hm:x % 2^cf<2^cf:=Nat.mod_lt _ (Nat.pow_pos (by omega))
  have hb:=bit_half hf.1 x
  refine sumB_eq ct fun j hj=>?_
  unfold sxB
  split
  · rename_i hs
    by_cases hj2:j<cf
    · rw [bit_mod hj2,show min j (cf-1)=j by omega]
    · rw [bit_big hm (by omega),show min j (cf-1)=cf-1 by omega]
      have:=bit_lt x (cf-1)
      have:¬ bitN x (cf-1)=1:=fun e=>hb.1 e hs
      omega
  · rename_i hs
    have hp:=pow_split hf.2
    have e:18446744073709551616-2^cf=2^cf*(2^(64-cf)-1):=by rw [Nat.mul_sub,hp,Nat.mul_one]
    rw [e,bit_hi hm]
    by_cases hj2:j<cf
    · rw [if_pos hj2,bit_mod hj2,show min j (cf-1)=j by omega]
    · rw [if_neg hj2,bit_ones (by omega),show min j (cf-1)=cf-1 by omega,hb.2 hs]
set_option maxHeartbeats 1000000 in
theorem r_Sext (wf wt:Int) (x:Nat) (hx:W x):R P f_r01_Sext [.int .i64 wf,.int .i64 wt,.int .u64 (x:Int)]=some (.int .u64 ((sextN (cw wf) (cw wt) x:Nat):Int)):=by
  have hc:=cw_in wt
  have hcf:=cw_in wf
  have h1:=n_W wt
  have h2:=n_W wf
  obtain ⟨_,h⟩:=loop_run (P:=P) (nt:=28) (lv:=[0,2,7,10,11]) (b:=B0_r01_Sext) (rd:=none) (as:=List.range (cw wt)) (fun i (_:Unit)=>e_rSx wf x (sumB (sxB (cw wf) x) i) (cw wt) i) (fun _=>[]) (fun _ _ _=>()) (fun _ _=>True)
    (fun i _ s _ hi hs=>by
      refine ⟨trivial,?_⟩
      have hi':i<cw wt:=by simpa using hi
      have hlt:((i:Int)<((cw wt:Nat):Int))=True:=by simpa using hi'
      have hcv:=cv_64 (i:=i) (by omega)
      obtain ⟨s3,s4⟩:=ext_step (f:=sxB (cw wf) x) (fun j=>bit_lt _ _) (i:=i) (by omega)
      have hw2:IntKind.i64.wrap (((cw wf:Nat):Int)-1)=((cw wf-1:Nat):Int):=by rw [IntWalk.i64_in _ (by omega)];omega
      have hmn:min (i:Int) ((cw wf-1:Nat):Int)=((min i (cw wf-1):Nat):Int):=by omega
      have hb1:R P f_r01_Bit [.int .u64 (x:Int),.int .i64 ((min i (cw wf-1):Nat):Int)]=some (.int .u64 ((sxB (cw wf) x i:Nat):Int)):=n_Bit x (min i (cw wf-1)) (by omega) hx
      generalize sumB (sxB (cw wf) x) (i+1)=B at *
      generalize sxB (cw wf) x i=C at *
      simp only [B0_r01_Sext]
      simp (disch:=omega) only [eqY,↓gc_len,seval,-List.reduceReplicate,reduceCtorEq,allP,hlt,q_r01_W,h2,hw2,hmn,q_r01_Bit,hb1,hcv,s3,s4,e_rSx]) (fun i s=>rfl) () trivial () (foldU _ 0)
  rw [List.length_range,sext_bits hcf hc.2] at h
  have h':loopAt P L0_r01_Sext [(0,.p (.int .i64 wf)),(2,.p (.int .u64 (x:Int))),(7,.p (.int .u64 0)),(10,.p (.int .i64 ((cw wt:Nat):Int))),(11,.p (.int .i64 0))] [] 28 none=_:=h
  (rw [r_r01_Sext (lbY rfl),F_r01_Sext];simp (disch:=omega) only [eqY,↓gc_len,seval,-List.reduceReplicate,reduceCtorEq,allP,q_r01_W,h1,k0_r01_Sext,h',B0_r01_Sext,Int.lt_irrefl,e_rSx])
abbrev e_rCc (wb:Int) (a y c i:Nat):List (Nat×AV):=[(1,.p (.int .i64 wb)),(2,.p (.int .u64 a)),(9,.p (.int .u64 y)),(15,.p (.int .i64 c)),(16,.p (.int .i64 i))]
def ccN (cb a b i:Nat):Nat:=b % 2^cb+a % 2^min i (64-cb)*2^cb
theorem cc_lt {cb i:Nat} (h:cb≤64) (a b:Nat):ccN cb a b i<2^(min i (64-cb)+cb):=by
  unfold ccN
  have h1:b % 2^cb<2^cb:=Nat.mod_lt _ (Nat.pow_pos (by omega))
  have h2:a % 2^min i (64-cb)<2^min i (64-cb):=Nat.mod_lt _ (Nat.pow_pos (by omega))
  have h3:=Nat.mul_le_mul_right (2^cb) (Nat.succ_le_of_lt h2)
  rw [Nat.succ_mul] at h3
  rw [Nat.pow_add]
  omega
theorem cc_eq {ca cb:Nat} (hb:cb≤64) (a b:Nat):ccN cb a b ca=concatN ca cb a b:=by
  unfold ccN concatN
  have h1:b % 2^cb<2^cb:=Nat.mod_lt _ (Nat.pow_pos (by omega))
  have hp:=pow_split hb
  have e:a % 2^ca*2^cb % 18446744073709551616=a % 2^ca % 2^(64-cb)*2^cb:=by
    rw [← hp,Nat.mul_comm (2^cb) (2^(64-cb)),Nat.mul_mod_mul_right]
  have e2:a % 2^ca % 2^(64-cb)=a % 2^min ca (64-cb):=by
    by_cases h:ca≤64-cb
    · rw [Nat.min_eq_left h,Nat.mod_eq_of_lt (Nat.lt_of_lt_of_le (Nat.mod_lt _ (Nat.pow_pos (by omega))) (Nat.pow_le_pow_right (by omega) h))]
    · rw [Nat.min_eq_right (by omega),Nat.mod_mod_of_dvd _ (Nat.pow_dvd_pow 2 (by omega))]
  rw [e,e2,Nat.or_comm,or_low h1]
set_option maxHeartbeats 1000000 in
theorem r_Concat (wa wb:Int) (a b:Nat) (ha:W a) (hb:W b):R P f_r01_Concat [.int .i64 wa,.int .i64 wb,.int .u64 (a:Int),.int .u64 (b:Int)]=some (.int .u64 ((concatN (cw wa) (cw wb) a b:Nat):Int)):=by
  have hca:=cw_in wa
  have hcb:=cw_in wb
  have h1:=n_W wa
  have h2:=n_W wb
  have h3:=n_rCut wb b hb
  obtain ⟨_,h⟩:=loop_run (P:=P) (nt:=37) (lv:=[1,2,9,15,16]) (b:=B0_r01_Concat) (rd:=none) (as:=List.range (cw wa)) (fun i (_:Unit)=>e_rCc wb a (ccN (cw wb) a b i) (cw wa) i) (fun _=>[]) (fun _ _ _=>()) (fun _ _=>True)
    (fun i _ s _ hi hs=>by
      refine ⟨trivial,?_⟩
      have hi':i<cw wa:=by simpa using hi
      have hlt:((i:Int)<((cw wa:Nat):Int))=True:=by simpa using hi'
      have hw2:IntKind.i64.wrap ((i:Int)+((cw wb:Nat):Int))=((i+cw wb:Nat):Int):=by rw [IntWalk.i64_in _ (by omega)];omega
      by_cases hin:i+cw wb<64
      · have hT:(((i+cw wb:Nat):Int)<64)=True:=by simp only [eq_iff_iff,iff_true];omega
        have hcv:=cv_64 (i:=i+cw wb) hin
        have b1:=n_Bit a i (by omega) ha
        have hpk:=pow_lt hin
        have hy:=cc_lt (i:=i) hcb.2 a b
        rw [show min i (64-cw wb)=i by omega] at hy
        have hl:=bit_lt a i
        have hsl:bitN a i*2^(i+cw wb)<18446744073709551616:=by
          rcases (show bitN a i=0∨bitN a i=1 by omega) with e | e<;>rw [e]<;>omega
        have s3:=n_shl (k:=.u64) (a:=bitN a i) (n:=i+cw wb) (by omega)
        rw [Nat.mod_eq_of_lt hsl] at s3
        have s4:=n_or (a:=ccN (cw wb) a b i) (b:=bitN a i*2^(i+cw wb)) (by omega) hsl
        rw [or_low hy] at s4
        have hnx:ccN (cw wb) a b i+bitN a i*2^(i+cw wb)=ccN (cw wb) a b (i+1):=by
          unfold ccN
          rw [show min i (64-cw wb)=i by omega,show min (i+1) (64-cw wb)=i+1 by omega,mod_step,Nat.add_mul,Nat.mul_assoc,← Nat.pow_add]
          omega
        rw [hnx] at s4
        simp only [B0_r01_Concat]
        simp (disch:=omega) only [eqY,↓gc_len,seval,-List.reduceReplicate,reduceCtorEq,allP,hlt,hw2,q_r01_W,h2,hT,q_r01_Bit,b1,hcv,s3,s4,e_rCc]
      · have hT:(((i+cw wb:Nat):Int)<64)=False:=by simp only [eq_iff_iff,iff_false];omega
        have hnx:ccN (cw wb) a b (i+1)=ccN (cw wb) a b i:=by
          unfold ccN
          rw [show min i (64-cw wb)=64-cw wb by omega,show min (i+1) (64-cw wb)=64-cw wb by omega]
        rw [hnx]
        simp only [B0_r01_Concat]
        simp (disch:=omega) only [eqY,↓gc_len,seval,-List.reduceReplicate,reduceCtorEq,allP,hlt,hw2,q_r01_W,h2,hT,e_rCc]) (fun i s=>rfl) () trivial () (foldU _ 0)
  rw [List.length_range,cc_eq (ca:=cw wa) hcb.2] at h
  have hz:ccN (cw wb) a b 0=b % 2^cw wb:=by unfold ccN;simp [Nat.mod_one]
  rw [hz] at h
  have h':loopAt P L0_r01_Concat [(1,.p (.int .i64 wb)),(2,.p (.int .u64 (a:Int))),(9,.p (.int .u64 ((b % 2^cw wb:Nat):Int))),(15,.p (.int .i64 ((cw wa:Nat):Int))),(16,.p (.int .i64 0))] [] 37 none=_:=h
  (rw [r_r01_Concat (lbY rfl),F_r01_Concat];simp (disch:=omega) only [eqY,↓gc_len,seval,-List.reduceReplicate,reduceCtorEq,allP,q_r01_Cut,h3,q_r01_W,h1,k0_r01_Concat,h',B0_r01_Concat,Int.lt_irrefl,e_rCc])
end Go.AE.S
