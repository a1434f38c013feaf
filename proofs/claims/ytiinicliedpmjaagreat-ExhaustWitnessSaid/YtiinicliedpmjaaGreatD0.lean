import Derived.Test.YtiinicliedpmjaaGreatB0
namespace Go.AE.S
open Go Go.AE
set_option linter.unusedSimpArgs false
set_option linter.unusedVariables false
variable {τ:Tm} {σ:Store} {rd:Option Nat}
theorem w64_eq (x:Int):IntKind.u64.wrap x=x % 18446744073709551616:=by
  simp [IntKind.wrap,IntKind.bits,IntKind.signed]
theorem w64 (n:Nat):IntKind.u64.wrap (n:Int)=((n % 18446744073709551616:Nat):Int):=by
  rw [w64_eq];simp
theorem n_add (a b:Nat):IntKind.u64.wrap ((a:Int)+b)=(((a+b) % 18446744073709551616:Nat):Int):=by rw [← w64];simp
theorem n_mul (a b:Nat):IntKind.u64.wrap ((a:Int)*b)=(((a*b) % 18446744073709551616:Nat):Int):=by rw [← w64];simp
theorem n_sub (a b:Nat) (hb:b≤18446744073709551616):IntKind.u64.wrap ((a:Int)-b)=(((a+(18446744073709551616-b)) % 18446744073709551616:Nat):Int):=by
  rw [w64_eq]
  omega
theorem n_neg (b:Nat) (hb:b≤18446744073709551616):IntKind.u64.wrap (0-(b:Int))=(((18446744073709551616-b) % 18446744073709551616:Nat):Int):=by
  rw [w64_eq]
  omega
theorem n_and {a b:Nat} (ha:a<18446744073709551616) (hb:b<18446744073709551616):arithV .and (.p (.int .u64 (a:Int))) (.p (.int .u64 (b:Int)))=some (.p (.int .u64 ((a &&& b:Nat):Int))):=by
  rw [v_and,u64_and ⟨by omega,by omega⟩ ⟨by omega,by omega⟩]
  rfl
theorem n_or {a b:Nat} (ha:a<18446744073709551616) (hb:b<18446744073709551616):arithV .or (.p (.int .u64 (a:Int))) (.p (.int .u64 (b:Int)))=some (.p (.int .u64 ((a ||| b:Nat):Int))):=by
  rw [v_or,u64_or ⟨by omega,by omega⟩ ⟨by omega,by omega⟩]
  rfl
theorem n_xor {a b:Nat} (ha:a<18446744073709551616) (hb:b<18446744073709551616):arithV .xor (.p (.int .u64 (a:Int))) (.p (.int .u64 (b:Int)))=some (.p (.int .u64 ((a ^^^ b:Nat):Int))):=by
  rw [v_xor,u64_xor ⟨by omega,by omega⟩ ⟨by omega,by omega⟩]
  rfl
theorem n_shr {k:IntKind} {a n:Nat} (hn:n≤64):arithV .shr (.p (.int .u64 (a:Int))) (.p (.int k (n:Int)))=some (.p (.int .u64 ((a / 2^n:Nat):Int))):=by
  rw [v_shr (by omega),show min (n:Int).toNat IntKind.u64.bits=n by (show min (n:Int).toNat 64=n);omega,fdiv_nat (by omega)]
  rfl
theorem n_shl {k:IntKind} {a n:Nat} (hn:n≤64):arithV .shl (.p (.int .u64 (a:Int))) (.p (.int k (n:Int)))=some (.p (.int .u64 ((a*2^n % 18446744073709551616:Nat):Int))):=by
  rw [v_shl (by omega),show min (n:Int).toNat IntKind.u64.bits=n by (show min (n:Int).toNat 64=n);omega,← w64]
  simp
theorem n_quo {a b:Nat} (hb:b≠0) (ha:a<18446744073709551616):arithV .quo (.p (.int .u64 (a:Int))) (.p (.int .u64 (b:Int)))=some (.p (.int .u64 ((a / b:Nat):Int))):=by
  rw [v_quo (by omega),Int.tdiv_eq_ediv_of_nonneg (by omega)]
  have h:((a:Int) / b)=((a / b:Nat):Int):=by simp
  rw [h,w64,Nat.mod_eq_of_lt (Nat.lt_of_le_of_lt (Nat.div_le_self a b) ha)]
theorem n_rem {a b:Nat} (hb:b≠0):arithV .rem (.p (.int .u64 (a:Int))) (.p (.int .u64 (b:Int)))=some (.p (.int .u64 ((a % b:Nat):Int))):=by
  rw [v_rem (by omega),Int.tmod_eq_emod_of_nonneg (by omega)]
  simp
theorem n_compl {a:Nat} (ha:a<18446744073709551616):complV (.p (.int .u64 (a:Int)))=some (.p (.int .u64 ((18446744073709551615-a:Nat):Int))):=by
  have h1:U64 18446744073709551615:=⟨by decide,by decide⟩
  have h2:U64 (a:Int):=⟨by omega,by omega⟩
  have h:complV (.p (.int .u64 (a:Int)))=some (.p (.int .u64 (IntKind.u64.wrap (BitVec.ofInt IntKind.u64.bits 18446744073709551615 ^^^ BitVec.ofInt IntKind.u64.bits a).toNat))):=rfl
  rw [h,u64_xor h1 h2]
  have e:(18446744073709551615:Int).toNat ^^^ (a:Int).toNat=18446744073709551615-a:=by
    have:(18446744073709551615:Int).toNat=2^64-1:=rfl
    rw [this,Int.toNat_natCast,Nat.xor_comm]
    apply Nat.eq_of_testBit_eq
    intro i
    have e2:18446744073709551615-a=2^64-(a+1):=by omega
    rw [Nat.testBit_xor,Nat.testBit_two_pow_sub_one,e2,Nat.testBit_two_pow_sub_succ (by omega)]
    by_cases hi:i<64
    · simp [hi]
    · have:a.testBit i=false:=Nat.testBit_lt_two_pow (Nat.lt_of_lt_of_le (show a<2^64 by omega) (Nat.pow_le_pow_right (by omega) (by omega)))
      simp [hi,this]
  rw [e]
def cw (w:Int):Nat:=(clampW w).toNat
theorem cw_in (w:Int):1≤cw w∧cw w≤64:=by have:=clamp_in w;unfold cw;omega
theorem cw_cast (w:Int):clampW w=((cw w:Nat):Int):=by have:=clamp_in w;unfold cw;omega
theorem cw_nat {c:Nat} (h:1≤c∧c≤64):cw (c:Int)=c:=by unfold cw clampW;omega
theorem pow_c {c:Nat} (h:c≤64):2^c≤18446744073709551616:=by
  have h1:2^c≤2^64:=Nat.pow_le_pow_right (by omega) h
  exact h1
theorem pow_dvd {c:Nat} (h:c≤64):2^c ∣ 18446744073709551616:=by
  have h1:2^c ∣ 2^64:=Nat.pow_dvd_pow 2 h
  exact h1
theorem mod_c {c:Nat} (h:c≤64) (x:Nat):x % 18446744073709551616 % 2^c=x % 2^c:=Nat.mod_mod_of_dvd x (pow_dvd h)
theorem cut_lt {c:Nat} (h:c≤64) (x:Nat):x % 2^c<18446744073709551616:=Nat.lt_of_lt_of_le (Nat.mod_lt _ (Nat.pow_pos (by omega))) (pow_c h)
theorem n_Cut (w:Int) (x:Nat) (hx:x<18446744073709551616):R P f_bits_Cut [.int .i64 w,.int .u64 (x:Int)]=some (.int .u64 ((x % 2^cw w:Nat):Int)):=by
  rw [s_bits_Cut w x ⟨by omega,by omega⟩]
  rfl
theorem n_rCut (w:Int) (x:Nat) (hx:x<18446744073709551616):R P f_r01_Cut [.int .i64 w,.int .u64 (x:Int)]=some (.int .u64 ((x % 2^cw w:Nat):Int)):=by
  rw [s_r01_Cut w x ⟨by omega,by omega⟩]
  rfl
theorem n_clamp (w:Int):R P f_bits_clamp [.int .i64 w]=some (.int .i64 ((cw w:Nat):Int)):=by rw [s_bits_clamp,cw_cast]
theorem n_W (w:Int):R P f_r01_W [.int .i64 w]=some (.int .i64 ((cw w:Nat):Int)):=by rw [s_r01_W,cw_cast]
theorem n_Mask (w:Int):R P f_bits_Mask [.int .i64 w]=some (.int .u64 ((2^cw w-1:Nat):Int)):=s_bits_Mask w
theorem n_Bit (x i:Nat) (hi:i<64) (hx:x<18446744073709551616):R P f_r01_Bit [.int .u64 (x:Int),.int .i64 (i:Int)]=some (.int .u64 ((bitN x i:Nat):Int)):=by
  rw [s_r01_Bit x i hi ⟨by omega,by omega⟩]
  rfl
theorem n_Bit0 (x:Nat) (i:Int) (hi:i<0∨63<i):R P f_r01_Bit [.int .u64 (x:Int),.int .i64 i]=some (.int .u64 0):=by
  by_cases h1:i<0
  · have h1':(i<0)=True:=by simp [h1]
    (rw [r_r01_Bit (lbY rfl),F_r01_Bit];simp (disch:=omega) only [eqY,↓gc_len,seval,-List.reduceReplicate,reduceCtorEq,allP,h1'])
  · have h1':(i<0)=False:=by simp;omega
    have h2':((63:Int)<i)=True:=by simp;omega
    (rw [r_r01_Bit (lbY rfl),F_r01_Bit];simp (disch:=omega) only [eqY,↓gc_len,seval,-List.reduceReplicate,reduceCtorEq,allP,h1',h2'])
abbrev W (x:Nat):Prop:=x<18446744073709551616
def sgnI (c a:Nat):Int:=if a % 2^c<2^(c-1) then ((a % 2^c:Nat):Int) else ((a % 2^c:Nat):Int)-((2^c:Nat):Int)
def flagN (b:Bool):Nat:=if b=true then 1 else 0
def udivN (c a b:Nat):Nat:=if b % 2^c=0 then 2^c-1 else a % 2^c / (b % 2^c)
def uremN (c a b:Nat):Nat:=if b % 2^c=0 then a % 2^c else a % 2^c % (b % 2^c)
def shlN (c a b:Nat):Nat:=if c≤b % 2^c then 0 else (a % 2^c*2^(b % 2^c)) % 2^c
def lshrN (c a b:Nat):Nat:=if c≤b % 2^c then 0 else a % 2^c / 2^(b % 2^c)
def ashrN (c a b:Nat):Nat:=if a % 2^c<2^(c-1) then lshrN c a b else if c≤b % 2^c then 2^c-1 else a % 2^c / 2^(b % 2^c)+(2^c-2^(c-b % 2^c))
def concatN (ca cb a b:Nat):Nat:=(a % 2^ca*2^cb % 18446744073709551616) ||| (b % 2^cb)
def extractN (low:Int) (c x:Nat):Nat:=if low<0 then 0 else (x / 2^min low.toNat 64) % 2^c
def sextN (cf ct x:Nat):Nat:=(if x % 2^cf<2^(cf-1) then x % 2^cf else x % 2^cf+(18446744073709551616-2^cf)) % 2^ct
theorem n_Not (w:Int) (a:Nat) (ha:W a):R P f_bits_Not [.int .i64 w,.int .u64 (a:Int)]=some (.int .u64 (((18446744073709551615-a) % 2^cw w:Nat):Int)):=by
  have h:=n_Cut w (18446744073709551615-a) (by omega)
  (rw [r_bits_Not (lbY rfl),F_bits_Not];simp (disch:=omega) only [eqY,↓gc_len,seval,-List.reduceReplicate,reduceCtorEq,allP,n_compl,q_bits_Cut,h])
theorem n_Neg (w:Int) (a:Nat) (ha:W a):R P f_bits_Neg [.int .i64 w,.int .u64 (a:Int)]=some (.int .u64 (((18446744073709551616-a) % 2^cw w:Nat):Int)):=by
  have h:=n_Cut w ((18446744073709551616-a) % 18446744073709551616) (by omega)
  have hn:=n_neg a (Nat.le_of_lt ha)
  (rw [r_bits_Neg (lbY rfl),F_bits_Neg];simp (disch:=omega) only [eqY,↓gc_len,seval,-List.reduceReplicate,reduceCtorEq,allP,hn,q_bits_Cut,h])
  rw [mod_c (cw_in w).2]
theorem n_And (w:Int) (a b:Nat) (ha:W a) (hb:W b):R P f_bits_And [.int .i64 w,.int .u64 (a:Int),.int .u64 (b:Int)]=some (.int .u64 (((a &&& b) % 2^cw w:Nat):Int)):=by
  have h:=n_Cut w (a &&& b) (Nat.lt_of_le_of_lt Nat.and_le_left ha)
  have hx:=n_and ha hb
  (rw [r_bits_And (lbY rfl),F_bits_And];simp (disch:=omega) only [eqY,↓gc_len,seval,-List.reduceReplicate,reduceCtorEq,allP,hx,q_bits_Cut,h])
theorem n_Or (w:Int) (a b:Nat) (ha:W a) (hb:W b):R P f_bits_Or [.int .i64 w,.int .u64 (a:Int),.int .u64 (b:Int)]=some (.int .u64 (((a ||| b) % 2^cw w:Nat):Int)):=by
  have h:=n_Cut w (a ||| b) (Nat.or_lt_two_pow (n:=64) ha hb)
  have hx:=n_or ha hb
  (rw [r_bits_Or (lbY rfl),F_bits_Or];simp (disch:=omega) only [eqY,↓gc_len,seval,-List.reduceReplicate,reduceCtorEq,allP,hx,q_bits_Cut,h])
theorem n_Xor (w:Int) (a b:Nat) (ha:W a) (hb:W b):R P f_bits_Xor [.int .i64 w,.int .u64 (a:Int),.int .u64 (b:Int)]=some (.int .u64 (((a ^^^ b) % 2^cw w:Nat):Int)):=by
  have h:=n_Cut w (a ^^^ b) (Nat.xor_lt_two_pow (n:=64) ha hb)
  have hx:=n_xor ha hb
  (rw [r_bits_Xor (lbY rfl),F_bits_Xor];simp (disch:=omega) only [eqY,↓gc_len,seval,-List.reduceReplicate,reduceCtorEq,allP,hx,q_bits_Cut,h])
theorem n_Add (w:Int) (a b:Nat) (ha:W a) (hb:W b):R P f_bits_Add [.int .i64 w,.int .u64 (a:Int),.int .u64 (b:Int)]=some (.int .u64 (((a+b) % 2^cw w:Nat):Int)):=by
  have h:=n_Cut w ((a+b) % 18446744073709551616) (Nat.mod_lt _ (by omega))
  have hx:=n_add a b
  (rw [r_bits_Add (lbY rfl),F_bits_Add];simp (disch:=omega) only [eqY,↓gc_len,seval,-List.reduceReplicate,reduceCtorEq,allP,hx,q_bits_Cut,h])
  rw [mod_c (cw_in w).2]
theorem n_Sub (w:Int) (a b:Nat) (ha:W a) (hb:W b):R P f_bits_Sub [.int .i64 w,.int .u64 (a:Int),.int .u64 (b:Int)]=some (.int .u64 (((a+(18446744073709551616-b)) % 2^cw w:Nat):Int)):=by
  have h:=n_Cut w ((a+(18446744073709551616-b)) % 18446744073709551616) (Nat.mod_lt _ (by omega))
  have hx:=n_sub a b (Nat.le_of_lt hb)
  (rw [r_bits_Sub (lbY rfl),F_bits_Sub];simp (disch:=omega) only [eqY,↓gc_len,seval,-List.reduceReplicate,reduceCtorEq,allP,hx,q_bits_Cut,h])
  rw [mod_c (cw_in w).2]
theorem n_Mul (w:Int) (a b:Nat) (ha:W a) (hb:W b):R P f_bits_Mul [.int .i64 w,.int .u64 (a:Int),.int .u64 (b:Int)]=some (.int .u64 (((a*b) % 2^cw w:Nat):Int)):=by
  have h:=n_Cut w ((a*b) % 18446744073709551616) (Nat.mod_lt _ (by omega))
  have hx:=n_mul a b
  (rw [r_bits_Mul (lbY rfl),F_bits_Mul];simp (disch:=omega) only [eqY,↓gc_len,seval,-List.reduceReplicate,reduceCtorEq,allP,hx,q_bits_Cut,h])
  rw [mod_c (cw_in w).2]
theorem n_Udiv (w:Int) (a b:Nat) (ha:W a) (hb:W b):R P f_bits_Udiv [.int .i64 w,.int .u64 (a:Int),.int .u64 (b:Int)]=some (.int .u64 ((udivN (cw w) a b:Nat):Int)):=by
  have h1:=n_Cut w a ha
  have h2:=n_Cut w b hb
  have h3:=n_Mask w
  have l1:=cut_lt (cw_in w).2 a
  unfold udivN
  by_cases h0:b % 2^cw w=0
  · rw [if_pos h0]
    have hz:(((b % 2^cw w:Nat):Int)=0)=True:=by simp only [eq_iff_iff,iff_true];omega
    (rw [r_bits_Udiv (lbY rfl),F_bits_Udiv];simp (disch:=omega) only [eqY,↓gc_len,seval,-List.reduceReplicate,reduceCtorEq,allP,q_bits_Cut,h1,h2,hz,q_bits_Mask,h3])
  · rw [if_neg h0]
    have hz:(((b % 2^cw w:Nat):Int)=0)=False:=by simp only [eq_iff_iff,iff_false];omega
    have hq:=n_quo (a:=a % 2^cw w) (b:=b % 2^cw w) h0 l1
    (rw [r_bits_Udiv (lbY rfl),F_bits_Udiv];simp (disch:=omega) only [eqY,↓gc_len,seval,-List.reduceReplicate,reduceCtorEq,allP,q_bits_Cut,h1,h2,hz,hq])
theorem n_Urem (w:Int) (a b:Nat) (ha:W a) (hb:W b):R P f_bits_Urem [.int .i64 w,.int .u64 (a:Int),.int .u64 (b:Int)]=some (.int .u64 ((uremN (cw w) a b:Nat):Int)):=by
  have h1:=n_Cut w a ha
  have h2:=n_Cut w b hb
  unfold uremN
  by_cases h0:b % 2^cw w=0
  · rw [if_pos h0]
    have hz:(((b % 2^cw w:Nat):Int)=0)=True:=by simp only [eq_iff_iff,iff_true];omega
    (rw [r_bits_Urem (lbY rfl),F_bits_Urem];simp (disch:=omega) only [eqY,↓gc_len,seval,-List.reduceReplicate,reduceCtorEq,allP,q_bits_Cut,h1,h2,hz])
  · rw [if_neg h0]
    have hz:(((b % 2^cw w:Nat):Int)=0)=False:=by simp only [eq_iff_iff,iff_false];omega
    have hq:=n_rem (a:=a % 2^cw w) (b:=b % 2^cw w) h0
    (rw [r_bits_Urem (lbY rfl),F_bits_Urem];simp (disch:=omega) only [eqY,↓gc_len,seval,-List.reduceReplicate,reduceCtorEq,allP,q_bits_Cut,h1,h2,hz,hq])
theorem n_flag (b:Bool):R P f_bits_flag [.bool b]=some (.int .u64 ((flagN b:Nat):Int)):=by
  cases b<;>(rw [r_bits_flag (lbY rfl),F_bits_flag];simp (disch:=omega) only [eqY,↓gc_len,seval,-List.reduceReplicate,reduceCtorEq,allP])<;>rfl
theorem n_Ult (w:Int) (a b:Nat) (ha:W a) (hb:W b):R P f_bits_Ult [.int .i64 w,.int .u64 (a:Int),.int .u64 (b:Int)]=some (.int .u64 ((flagN (decide (a % 2^cw w<b % 2^cw w)):Nat):Int)):=by
  have h1:=n_Cut w a ha
  have h2:=n_Cut w b hb
  have h3:=n_flag (decide (a % 2^cw w<b % 2^cw w))
  have hl:((((a % 2^cw w:Nat):Int))<((b % 2^cw w:Nat):Int))=(a % 2^cw w<b % 2^cw w):=by simp only [eq_iff_iff];omega
  (rw [r_bits_Ult (lbY rfl),F_bits_Ult];simp (disch:=omega) only [eqY,↓gc_len,seval,-List.reduceReplicate,reduceCtorEq,allP,q_bits_Cut,h1,h2,hl,q_bits_flag,h3])
theorem i64_eq (x:Nat) (hx:W x):IntKind.i64.wrap (x:Int)=if x<9223372036854775808 then (x:Int) else (x:Int)-18446744073709551616:=by
  simp [IntKind.wrap,IntKind.bits,IntKind.signed]
  split<;>split<;>omega
theorem pow_half {c:Nat} (h:1≤c):2^c=2*2^(c-1):=by
  obtain ⟨d,rfl⟩:∃ d,c=d+1:=⟨c-1,by omega⟩
  rw [Nat.pow_succ,Nat.add_sub_cancel];omega
theorem pow_split {c:Nat} (h:c≤64):2^c*2^(64-c)=18446744073709551616:=by
  rw [← Nat.pow_add,show c+(64-c)=64 by omega]
theorem fdiv_exact (m:Int) (k:Nat):(m*((2^k:Nat):Int)).fdiv (2^k)=m:=by
  have hp:(0:Int)<2^k:=Int.pow_pos (by omega)
  have e:((2^k:Nat):Int)=2^k:=by simp
  rw [e,Int.mul_fdiv_cancel _ (by omega)]
theorem sgn_eq {c:Nat} (h:1≤c∧c≤64) (a:Nat):(IntKind.i64.wrap ((a*2^(64-c) % 18446744073709551616:Nat):Int)).fdiv (2^(64-c))=sgnI c a:=by
  have hs:=pow_split h.2
  have hh:=pow_half h.1
  have e:a*2^(64-c) % 18446744073709551616=a % 2^c*2^(64-c):=by rw [← hs,Nat.mul_mod_mul_right]
  rw [e,i64_eq _ (by rw [← e];exact Nat.mod_lt _ (by omega))]
  unfold sgnI
  have hm:a % 2^c<2^c:=Nat.mod_lt _ (Nat.pow_pos (by omega))
  generalize a % 2^c=m at *
  have hp:0<2^(64-c):=Nat.pow_pos (by omega)
  have h2:2^(c-1)*2^(64-c)=9223372036854775808:=by
    rw [hh,Nat.mul_assoc] at hs;omega
  by_cases hlt:m<2^(c-1)
  · have:m*2^(64-c)<9223372036854775808:=by rw [← h2];exact Nat.mul_lt_mul_of_pos_right hlt hp
    rw [if_pos this,if_pos hlt,Int.natCast_mul,fdiv_exact]
  · have:¬ m*2^(64-c)<9223372036854775808:=by
      have:=Nat.mul_le_mul_right (2^(64-c)) (Nat.le_of_not_lt hlt)
      omega
    rw [if_neg this,if_neg hlt]
    have e2:((m*2^(64-c):Nat):Int)-18446744073709551616=((m:Int)-((2^c:Nat):Int))*((2^(64-c):Nat):Int):=by
      rw [Int.sub_mul,← Int.natCast_mul,← Int.natCast_mul,hs]
      rfl
    rw [e2,fdiv_exact]
theorem n_Signed (w:Int) (a:Nat) (ha:W a):R P f_bits_Signed [.int .i64 w,.int .u64 (a:Int)]=some (.int .i64 (sgnI (cw w) a)):=by
  have hc:=cw_in w
  have h1:=n_clamp w
  have hw:IntKind.i64.wrap (64-((cw w:Nat):Int))=((64-cw w:Nat):Int):=by rw [IntWalk.i64_in _ (by omega)];omega
  have hs:=n_shl (k:=.i64) (a:=a) (n:=64-cw w) (by omega)
  have hv:arithV .shr (.p (.int .i64 (IntKind.i64.wrap ((a*2^(64-cw w) % 18446744073709551616:Nat):Int)))) (.p (.int .i64 ((64-cw w:Nat):Int)))=some (.p (.int .i64 (sgnI (cw w) a))):=by
    rw [v_shr (by omega),show min ((64-cw w:Nat):Int).toNat IntKind.i64.bits=64-cw w by (show min ((64-cw w:Nat):Int).toNat 64=_);omega,sgn_eq hc]
  (rw [r_bits_Signed (lbY rfl),F_bits_Signed];simp (disch:=omega) only [eqY,↓gc_len,seval,-List.reduceReplicate,reduceCtorEq,allP,q_bits_clamp,h1,hw,hs,hv])
theorem sgn_mod {c:Nat} (a:Nat):sgnI c (a % 2^c)=sgnI c a:=by unfold sgnI;rw [Nat.mod_mod]
theorem n_Slt (w:Int) (a b:Nat) (ha:W a) (hb:W b):R P f_bits_Slt [.int .i64 w,.int .u64 (a:Int),.int .u64 (b:Int)]=some (.int .u64 ((flagN (decide (sgnI (cw w) a<sgnI (cw w) b)):Nat):Int)):=by
  have h1:=n_Signed w a ha
  have h2:=n_Signed w b hb
  have h3:=n_flag (decide (sgnI (cw w) a<sgnI (cw w) b))
  (rw [r_bits_Slt (lbY rfl),F_bits_Slt];simp (disch:=omega) only [eqY,↓gc_len,seval,-List.reduceReplicate,reduceCtorEq,allP,q_bits_Signed,h1,h2,q_bits_flag,h3])
theorem n_Concat (wa wb:Int) (a b:Nat) (ha:W a) (hb:W b):R P f_bits_Concat [.int .i64 wa,.int .i64 wb,.int .u64 (a:Int),.int .u64 (b:Int)]=some (.int .u64 ((concatN (cw wa) (cw wb) a b:Nat):Int)):=by
  have h1:=n_Cut wa a ha
  have h2:=n_Cut wb b hb
  have h3:=n_clamp wb
  have hs:=n_shl (k:=.i64) (a:=a % 2^cw wa) (n:=cw wb) (cw_in wb).2
  have ho:=n_or (a:=a % 2^cw wa*2^cw wb % 18446744073709551616) (b:=b % 2^cw wb) (Nat.mod_lt _ (by omega)) (cut_lt (cw_in wb).2 b)
  (rw [r_bits_Concat (lbY rfl),F_bits_Concat];simp (disch:=omega) only [eqY,↓gc_len,seval,-List.reduceReplicate,reduceCtorEq,allP,q_bits_Cut,h1,h2,q_bits_clamp,h3,hs,ho])
  rfl
theorem n_Extract (low w:Int) (x:Nat) (hx:W x):R P f_bits_Extract [.int .i64 low,.int .i64 w,.int .u64 (x:Int)]=some (.int .u64 ((extractN low (cw w) x:Nat):Int)):=by
  unfold extractN
  by_cases h0:low<0
  · have hz:(low<0)=True:=by simp [h0]
    rw [if_pos h0]
    (rw [r_bits_Extract (lbY rfl),F_bits_Extract];simp (disch:=omega) only [eqY,↓gc_len,seval,-List.reduceReplicate,reduceCtorEq,allP,hz])
  · have hz:(low<0)=False:=by simp [h0]
    rw [if_neg h0]
    have hs:arithV .shr (.p (.int .u64 (x:Int))) (.p (.int .i64 low))=some (.p (.int .u64 ((x / 2^min low.toNat 64:Nat):Int))):=by
      rw [v_shr (by omega),fdiv_nat (by omega)]
      rfl
    have h1:=n_Cut w (x / 2^min low.toNat 64) (Nat.lt_of_le_of_lt (Nat.div_le_self _ _) hx)
    (rw [r_bits_Extract (lbY rfl),F_bits_Extract];simp (disch:=omega) only [eqY,↓gc_len,seval,-List.reduceReplicate,reduceCtorEq,allP,hz,hs,q_bits_Cut,h1])
theorem sgn_u64 {c:Nat} (h:1≤c∧c≤64) (a:Nat):IntKind.u64.wrap (sgnI c a)=(((if a % 2^c<2^(c-1) then a % 2^c else a % 2^c+(18446744073709551616-2^c):Nat)):Int):=by
  have hm:a % 2^c<2^c:=Nat.mod_lt _ (Nat.pow_pos (by omega))
  have hp:=pow_c h.2
  rw [w64_eq]
  unfold sgnI
  split<;>omega
theorem n_Sext (wf wt:Int) (x:Nat) (hx:W x):R P f_bits_Sext [.int .i64 wf,.int .i64 wt,.int .u64 (x:Int)]=some (.int .u64 ((sextN (cw wf) (cw wt) x:Nat):Int)):=by
  have h1:=n_Signed wf x hx
  have hu:=sgn_u64 (cw_in wf) x
  have hm:x % 2^cw wf<2^cw wf:=Nat.mod_lt _ (Nat.pow_pos (by omega))
  have hp:=pow_c (cw_in wf).2
  have h2:=n_Cut wt (if x % 2^cw wf<2^(cw wf-1) then x % 2^cw wf else x % 2^cw wf+(18446744073709551616-2^cw wf)) (by split<;>omega)
  unfold sextN
  (rw [r_bits_Sext (lbY rfl),F_bits_Sext];simp (disch:=omega) only [eqY,↓gc_len,seval,-List.reduceReplicate,reduceCtorEq,allP,q_bits_Signed,h1,hu,q_bits_Cut,h2])
theorem pow_sub_mul {c n:Nat} (h:n≤c):2^(c-n)*2^n=2^c:=by rw [← Nat.pow_add,Nat.sub_add_cancel h]
theorem fdiv_pow {m:Int} {k:Nat}:m.fdiv (2^k)=m / ((2^k:Nat):Int):=by
  have hp:(0:Int)≤2^k:=Int.le_of_lt (Int.pow_pos (by omega))
  rw [Int.fdiv_eq_ediv_of_nonneg _ hp]
  simp
theorem neg_shr {c n m:Nat} (hc:c≤64) (hn:n<c) (hm:m<2^c):IntKind.u64.wrap (((m:Int)-((2^c:Nat):Int)).fdiv (2^n))=((m / 2^n+(18446744073709551616-2^(c-n)):Nat):Int):=by
  have hs:=pow_sub_mul (Nat.le_of_lt hn)
  have hp:0<2^n:=Nat.pow_pos (by omega)
  have ht:2^(c-n)≤18446744073709551616:=pow_c (by omega)
  have hr:m / 2^n<2^(c-n):=by
    rw [Nat.div_lt_iff_lt_mul hp,hs];exact hm
  have e:((m:Int)-((2^c:Nat):Int)).fdiv (2^n)=((m / 2^n:Nat):Int)-((2^(c-n):Nat):Int):=by
    rw [fdiv_pow,← hs,Int.natCast_mul,Int.sub_mul_ediv_right _ _ (by omega)]
    simp
  rw [e,w64_eq]
  generalize m / 2^n=r at *
  generalize 2^(c-n)=t at *
  omega
theorem neg_cut {c n m:Nat} (hc:c≤64) (hn:n<c) (hm:m<2^c):(m / 2^n+(18446744073709551616-2^(c-n))) % 2^c=m / 2^n+(2^c-2^(c-n)):=by
  have hs:=pow_sub_mul (Nat.le_of_lt hn)
  have hp:0<2^n:=Nat.pow_pos (by omega)
  have hr:m / 2^n<2^(c-n):=by
    rw [Nat.div_lt_iff_lt_mul hp,hs];exact hm
  have ht:2^(c-n)≤2^c:=Nat.pow_le_pow_right (by omega) (by omega)
  have hq:=pow_split hc
  have hq0:0<2^(64-c):=Nat.pow_pos (by omega)
  obtain ⟨q,hqq⟩:∃ q,2^(64-c)=q+1:=⟨2^(64-c)-1,by omega⟩
  rw [hqq,Nat.mul_succ] at hq
  have e:m / 2^n+(18446744073709551616-2^(c-n))=m / 2^n+(2^c-2^(c-n))+2^c*q:=by omega
  rw [e,Nat.add_mul_mod_self_left,Nat.mod_eq_of_lt (by omega)]
theorem c64 (w:Int):IntKind.u64.wrap ((cw w:Nat):Int)=((cw w:Nat):Int):=by have:=cw_in w;rw [w64,Nat.mod_eq_of_lt (by omega)]
theorem n_shift0 (w:Int) (a b:Nat) (ha:W a) (hb:W b):R P f_bits_shift [.int .i64 0,.int .i64 w,.int .u64 (a:Int),.int .u64 (b:Int)]=some (.int .u64 ((shlN (cw w) a b:Nat):Int)):=by
  have h1:=n_Cut w a ha
  have h2:=n_Cut w b hb
  have h3:=n_clamp w
  have hc:=cw_in w
  have h4:=c64 w
  unfold shlN
  by_cases hf:cw w≤b % 2^cw w
  · have hg:((((cw w:Nat):Int))≤((b % 2^cw w:Nat):Int))=True:=by simp only [eq_iff_iff,iff_true];omega
    rw [if_pos hf]
    (rw [r_bits_shift (lbY rfl),F_bits_shift];simp (disch:=omega) only [eqY,↓gc_len,seval,-List.reduceReplicate,reduceCtorEq,allP,q_bits_Cut,h1,h2,q_bits_clamp,h3,h4,ge_iff_le,hg])
  · have hg:((((cw w:Nat):Int))≤((b % 2^cw w:Nat):Int))=False:=by simp only [eq_iff_iff,iff_false];omega
    rw [if_neg hf]
    have hs:=n_shl (k:=.u64) (a:=a % 2^cw w) (n:=b % 2^cw w) (by omega)
    have h5:=n_Cut w (a % 2^cw w*2^(b % 2^cw w) % 18446744073709551616) (Nat.mod_lt _ (by omega))
    (rw [r_bits_shift (lbY rfl),F_bits_shift];simp (disch:=omega) only [eqY,↓gc_len,seval,-List.reduceReplicate,reduceCtorEq,allP,q_bits_Cut,h1,h2,q_bits_clamp,h3,h4,ge_iff_le,hg,hs,h5])
    rw [mod_c hc.2]
theorem n_shift1 (w:Int) (a b:Nat) (ha:W a) (hb:W b):R P f_bits_shift [.int .i64 1,.int .i64 w,.int .u64 (a:Int),.int .u64 (b:Int)]=some (.int .u64 ((lshrN (cw w) a b:Nat):Int)):=by
  have h1:=n_Cut w a ha
  have h2:=n_Cut w b hb
  have h3:=n_clamp w
  have hc:=cw_in w
  have h4:=c64 w
  unfold lshrN
  by_cases hf:cw w≤b % 2^cw w
  · have hg:((((cw w:Nat):Int))≤((b % 2^cw w:Nat):Int))=True:=by simp only [eq_iff_iff,iff_true];omega
    rw [if_pos hf]
    (rw [r_bits_shift (lbY rfl),F_bits_shift];simp (disch:=omega) only [eqY,↓gc_len,seval,-List.reduceReplicate,reduceCtorEq,allP,q_bits_Cut,h1,h2,q_bits_clamp,h3,h4,ge_iff_le,hg])
  · have hg:((((cw w:Nat):Int))≤((b % 2^cw w:Nat):Int))=False:=by simp only [eq_iff_iff,iff_false];omega
    rw [if_neg hf]
    have hs:=n_shr (k:=.u64) (a:=a % 2^cw w) (n:=b % 2^cw w) (by omega)
    (rw [r_bits_shift (lbY rfl),F_bits_shift];simp (disch:=omega) only [eqY,↓gc_len,seval,-List.reduceReplicate,reduceCtorEq,allP,q_bits_Cut,h1,h2,q_bits_clamp,h3,h4,ge_iff_le,hg,hs])
theorem n_shift2 (w:Int) (a b:Nat) (ha:W a) (hb:W b):R P f_bits_shift [.int .i64 2,.int .i64 w,.int .u64 (a:Int),.int .u64 (b:Int)]=some (.int .u64 ((ashrN (cw w) a b:Nat):Int)):=by
  have h1:=n_Cut w a ha
  have h2:=n_Cut w b hb
  have h3:=n_clamp w
  have hc:=cw_in w
  have h4:=c64 w
  have hm:a % 2^cw w<2^cw w:=Nat.mod_lt _ (Nat.pow_pos (by omega))
  have h6:=n_Signed w (a % 2^cw w) (cut_lt hc.2 a)
  have h7:=n_Mask w
  rw [sgn_mod] at h6
  unfold ashrN
  by_cases hsg:a % 2^cw w<2^(cw w-1)
  · have hz:(sgnI (cw w) a<0)=False:=by unfold sgnI;rw [if_pos hsg];simp only [eq_iff_iff,iff_false];omega
    rw [if_pos hsg]
    unfold lshrN
    by_cases hf:cw w≤b % 2^cw w
    · have hg:((((cw w:Nat):Int))≤((b % 2^cw w:Nat):Int))=True:=by simp only [eq_iff_iff,iff_true];omega
      rw [if_pos hf]
      (rw [r_bits_shift (lbY rfl),F_bits_shift];simp (disch:=omega) only [eqY,↓gc_len,seval,-List.reduceReplicate,reduceCtorEq,allP,q_bits_Cut,h1,h2,q_bits_clamp,h3,h4,ge_iff_le,hg,q_bits_Signed,h6,hz])
    · have hg:((((cw w:Nat):Int))≤((b % 2^cw w:Nat):Int))=False:=by simp only [eq_iff_iff,iff_false];omega
      rw [if_neg hf]
      have hs:=n_shr (k:=.u64) (a:=a % 2^cw w) (n:=b % 2^cw w) (by omega)
      (rw [r_bits_shift (lbY rfl),F_bits_shift];simp (disch:=omega) only [eqY,↓gc_len,seval,-List.reduceReplicate,reduceCtorEq,allP,q_bits_Cut,h1,h2,q_bits_clamp,h3,h4,ge_iff_le,hg,q_bits_Signed,h6,hz,hs])
  · have hz:(sgnI (cw w) a<0)=True:=by unfold sgnI;rw [if_neg hsg];simp only [eq_iff_iff,iff_true];omega
    rw [if_neg hsg]
    by_cases hf:cw w≤b % 2^cw w
    · have hg:((((cw w:Nat):Int))≤((b % 2^cw w:Nat):Int))=True:=by simp only [eq_iff_iff,iff_true];omega
      rw [if_pos hf]
      (rw [r_bits_shift (lbY rfl),F_bits_shift];simp (disch:=omega) only [eqY,↓gc_len,seval,-List.reduceReplicate,reduceCtorEq,allP,q_bits_Cut,h1,h2,q_bits_clamp,h3,h4,ge_iff_le,hg,q_bits_Signed,h6,hz,q_bits_Mask,h7])
    · have hg:((((cw w:Nat):Int))≤((b % 2^cw w:Nat):Int))=False:=by simp only [eq_iff_iff,iff_false];omega
      rw [if_neg hf]
      have hn:b % 2^cw w<cw w:=by omega
      have hs:arithV .shr (.p (.int .i64 (sgnI (cw w) a))) (.p (.int .u64 ((b % 2^cw w:Nat):Int)))=some (.p (.int .i64 ((((a % 2^cw w:Nat):Int)-((2^cw w:Nat):Int)).fdiv (2^(b % 2^cw w))))):=by
        rw [v_shr (by omega),show min ((b % 2^cw w:Nat):Int).toNat IntKind.i64.bits=b % 2^cw w by (show min ((b % 2^cw w:Nat):Int).toNat 64=_);omega]
        unfold sgnI
        rw [if_neg hsg]
      have hw:=neg_shr hc.2 hn hm
      have hk:=neg_cut hc.2 hn hm
      have h5:=n_Cut w (a % 2^cw w / 2^(b % 2^cw w)+(18446744073709551616-2^(cw w-b % 2^cw w))) (by
        have:a % 2^cw w / 2^(b % 2^cw w)<2^(cw w-b % 2^cw w):=by
          rw [Nat.div_lt_iff_lt_mul (Nat.pow_pos (by omega)),pow_sub_mul (by omega)];exact hm
        have:=pow_c (c:=cw w-b % 2^cw w) (by omega)
        omega)
      rw [hk] at h5
      (rw [r_bits_shift (lbY rfl),F_bits_shift];simp (disch:=omega) only [eqY,↓gc_len,seval,-List.reduceReplicate,reduceCtorEq,allP,q_bits_Cut,h1,h2,q_bits_clamp,h3,h4,ge_iff_le,hg,q_bits_Signed,h6,hz,hs,hw,h5])
theorem n_Shl (w:Int) (a b:Nat) (ha:W a) (hb:W b):R P f_bits_Shl [.int .i64 w,.int .u64 (a:Int),.int .u64 (b:Int)]=some (.int .u64 ((shlN (cw w) a b:Nat):Int)):=by
  have h:=n_shift0 w a b ha hb
  (rw [r_bits_Shl (lbY rfl),F_bits_Shl];simp (disch:=omega) only [eqY,↓gc_len,seval,-List.reduceReplicate,reduceCtorEq,allP,q_bits_shift,h])
theorem n_Lshr (w:Int) (a b:Nat) (ha:W a) (hb:W b):R P f_bits_Lshr [.int .i64 w,.int .u64 (a:Int),.int .u64 (b:Int)]=some (.int .u64 ((lshrN (cw w) a b:Nat):Int)):=by
  have h:=n_shift1 w a b ha hb
  (rw [r_bits_Lshr (lbY rfl),F_bits_Lshr];simp (disch:=omega) only [eqY,↓gc_len,seval,-List.reduceReplicate,reduceCtorEq,allP,q_bits_shift,h])
theorem n_Ashr (w:Int) (a b:Nat) (ha:W a) (hb:W b):R P f_bits_Ashr [.int .i64 w,.int .u64 (a:Int),.int .u64 (b:Int)]=some (.int .u64 ((ashrN (cw w) a b:Nat):Int)):=by
  have h:=n_shift2 w a b ha hb
  (rw [r_bits_Ashr (lbY rfl),F_bits_Ashr];simp (disch:=omega) only [eqY,↓gc_len,seval,-List.reduceReplicate,reduceCtorEq,allP,q_bits_shift,h])
abbrev e_rM (c m i:Nat):List (Nat×AV):=[(3,.p (.int .u64 m)),(5,.p (.int .i64 c)),(6,.p (.int .i64 i))]
theorem foldU {α:Type} (as:List α) (i:Nat):foldE (S:=Unit) (T:=Empty) (fun i s a=>.inl ()) i () as=.inl ():=by
  induction as generalizing i with
  | nil=>rfl
  | cons a as ih=>exact ih (i+1)
theorem pow_lt {i:Nat} (h:i<64):2^i≤9223372036854775808:=by
  have h1:2^i≤2^63:=Nat.pow_le_pow_right (by omega) (by omega)
  exact h1
theorem r_Mask (w:Int):R P f_r01_Mask [.int .i64 w]=some (.int .u64 ((2^cw w-1:Nat):Int)):=by
  have hc:=cw_in w
  have h1:=n_W w
  obtain ⟨_,h⟩:=loop_run (P:=P) (nt:=13) (lv:=[3,5,6]) (b:=B0_r01_Mask) (rd:=none) (as:=List.range (cw w)) (fun i (_:Unit)=>e_rM (cw w) (2^i-1) i) (fun _=>[]) (fun _ _ _=>()) (fun _ _=>True)
    (fun i a s ha hi hs=>by
      refine ⟨trivial,?_⟩
      have hi':i<cw w:=by simpa using hi
      have hlt:((i:Int)<((cw w:Nat):Int))=True:=by simpa using hi'
      have hp:=pow_lt (i:=i) (by omega)
      have hp0:0<2^i:=Nat.pow_pos (by omega)
      have e1:IntKind.u64.wrap (((2^i-1:Nat):Int)*2)=(((2^i-1)*2:Nat):Int):=by rw [w64_eq];omega
      have e2:IntKind.u64.wrap ((((2^i-1)*2:Nat):Int)+1)=((2^(i+1)-1:Nat):Int):=by rw [w64_eq,Nat.pow_succ];omega
      simp only [B0_r01_Mask]
      simp (disch:=omega) only [eqY,↓gc_len,seval,-List.reduceReplicate,reduceCtorEq,allP,hlt,e1,e2,e_rM]) (fun i s=>rfl) () trivial () (foldU _ 0)
  rw [List.length_range] at h
  have h':loopAt P L0_r01_Mask [(3,.p (.int .u64 0)),(5,.p (.int .i64 ((cw w:Nat):Int))),(6,.p (.int .i64 0))] [] 13 none=_:=h
  (rw [r_r01_Mask (lbY rfl),F_r01_Mask];simp (disch:=omega) only [eqY,↓gc_len,seval,-List.reduceReplicate,reduceCtorEq,allP,q_r01_W,h1,k0_r01_Mask,h',B0_r01_Mask,Int.lt_irrefl,e_rM])
theorem bit_lt (x i:Nat):bitN x i<2:=Nat.mod_lt _ (by omega)
theorem bit_test (x i:Nat):x.testBit i=decide (bitN x i=1):=by
  unfold bitN
  rw [Nat.testBit_eq_decide_div_mod_eq]
theorem bit_half {c:Nat} (h:1≤c) (x:Nat):bitN x (c-1)=1↔¬ x % 2^c<2^(c-1):=by
  have hh:=pow_half h
  have e:=mod_bits x (c-1)
  rw [Nat.sub_add_cancel h] at e
  have hm:x % 2^(c-1)<2^(c-1):=Nat.mod_lt _ (Nat.pow_pos (by omega))
  rw [Nat.or_comm,Nat.mul_comm,← Nat.two_pow_add_eq_or_of_lt hm] at e
  have hb:=bit_lt x (c-1)
  rcases (show bitN x (c-1)=0∨bitN x (c-1)=1 by omega) with h0 | h0<;>rw [h0] at e ⊢<;>simp at e ⊢<;>omega
theorem r_Negative (w:Int) (x:Nat) (hx:W x):R P f_r01_Negative [.int .i64 w,.int .u64 (x:Int)]=some (.bool (decide (¬ x % 2^cw w<2^(cw w-1)))):=by
  have hc:=cw_in w
  have h1:=n_W w
  have hw:IntKind.i64.wrap (((cw w:Nat):Int)-1)=((cw w-1:Nat):Int):=by rw [IntWalk.i64_in _ (by omega)];omega
  have h2:=n_Bit x (cw w-1) (by omega) hx
  have hb:=bit_half hc.1 x
  have he:(((bitN x (cw w-1):Nat):Int)=1)=(¬ x % 2^cw w<2^(cw w-1)):=by rw [← hb];simp only [eq_iff_iff];omega
  (rw [r_r01_Negative (lbY rfl),F_r01_Negative];simp (disch:=omega) only [eqY,↓gc_len,seval,-List.reduceReplicate,reduceCtorEq,allP,q_r01_W,h1,hw,q_r01_Bit,h2,he])
theorem i64_w {x:Nat} (hx:x<9223372036854775808):IntKind.i64.wrap (x:Int)=x:=IntWalk.i64_in _ (by omega)
theorem r_Signed (w:Int) (x:Nat) (hx:W x):R P f_r01_Signed [.int .i64 w,.int .u64 (x:Int)]=some (.int .i64 (sgnI (cw w) x)):=by
  have hc:=cw_in w
  have h1:=n_rCut w x hx
  have h2:=r_Negative w x hx
  have h3:=r_Mask w
  have hh:=pow_half hc.1
  have hp:=pow_lt (i:=cw w-1) (by omega)
  have hm:x % 2^cw w<2^cw w:=Nat.mod_lt _ (Nat.pow_pos (by omega))
  have hp0:0<2^(cw w-1):=Nat.pow_pos (by omega)
  unfold sgnI
  by_cases hlt:x % 2^cw w<2^(cw w-1)
  · rw [if_pos hlt]
    have hd:(¬ x % 2^cw w<2^(cw w-1))=False:=by simp [hlt]
    have e1:=i64_w (x:=x % 2^cw w) (by omega)
    (rw [r_r01_Signed (lbY rfl),F_r01_Signed];simp (disch:=omega) only [eqY,↓gc_len,seval,-List.reduceReplicate,reduceCtorEq,allP,q_r01_Cut,h1,q_r01_Negative,h2,hd,e1])
  · rw [if_neg hlt]
    have hd:(¬ x % 2^cw w<2^(cw w-1))=True:=by simp;omega
    have e1:=n_sub (2^cw w-1) (x % 2^cw w) (by omega)
    have e2:(2^cw w-1+(18446744073709551616-x % 2^cw w)) % 18446744073709551616=2^cw w-1-x % 2^cw w:=by omega
    rw [e2] at e1
    have e3:=i64_w (x:=2^cw w-1-x % 2^cw w) (by omega)
    have e4:IntKind.i64.wrap (0-((2^cw w-1-x % 2^cw w:Nat):Int))=0-((2^cw w-1-x % 2^cw w:Nat):Int):=IntWalk.i64_in _ (by omega)
    have e5:IntKind.i64.wrap (0-((2^cw w-1-x % 2^cw w:Nat):Int)-1)=((x % 2^cw w:Nat):Int)-((2^cw w:Nat):Int):=by rw [IntWalk.i64_in _ (by omega)];omega
    (rw [r_r01_Signed (lbY rfl),F_r01_Signed];simp (disch:=omega) only [eqY,↓gc_len,seval,-List.reduceReplicate,reduceCtorEq,allP,q_r01_Cut,h1,q_r01_Negative,h2,hd,q_r01_Mask,h3,e1,e3,e4,e5])
theorem r_Not (w:Int) (a:Nat) (ha:W a):R P f_r01_Not [.int .i64 w,.int .u64 (a:Int)]=some (.int .u64 ((2^cw w-1-a % 2^cw w:Nat):Int)):=by
  have hc:=cw_in w
  have h1:=n_rCut w a ha
  have h3:=r_Mask w
  have hm:a % 2^cw w<2^cw w:=Nat.mod_lt _ (Nat.pow_pos (by omega))
  have hp:=pow_c hc.2
  have e1:=n_sub (2^cw w-1) (a % 2^cw w) (by omega)
  have e2:(2^cw w-1+(18446744073709551616-a % 2^cw w)) % 18446744073709551616=2^cw w-1-a % 2^cw w:=by omega
  rw [e2] at e1
  (rw [r_r01_Not (lbY rfl),F_r01_Not];simp (disch:=omega) only [eqY,↓gc_len,seval,-List.reduceReplicate,reduceCtorEq,allP,q_r01_Mask,h3,q_r01_Cut,h1,e1])
theorem not_eq {c:Nat} (h:c≤64) {a:Nat} (ha:W a):(18446744073709551615-a) % 2^c=2^c-1-a % 2^c:=by
  have hs:=pow_split h
  have hp:0<2^c:=Nat.pow_pos (by omega)
  have hm:a % 2^c<2^c:=Nat.mod_lt _ hp
  have hd:=Nat.div_add_mod a (2^c)
  have hq:a / 2^c<2^(64-c):=by rw [Nat.div_lt_iff_lt_mul hp,Nat.mul_comm,hs];exact ha
  obtain ⟨k,hk⟩:∃ k,2^(64-c)=a / 2^c+1+k:=⟨2^(64-c)-(a / 2^c+1),by omega⟩
  rw [hk,Nat.mul_add,Nat.mul_add,Nat.mul_one] at hs
  have e:18446744073709551615-a=(2^c-1-a % 2^c)+2^c*k:=by omega
  rw [e,Nat.add_mul_mod_self_left,Nat.mod_eq_of_lt (by omega)]
theorem r_truth (b:Bool):R P f_r01_truth [.bool b]=some (.int .u64 ((flagN b:Nat):Int)):=by
  cases b<;>(rw [r_r01_truth (lbY rfl),F_r01_truth];simp (disch:=omega) only [eqY,↓gc_len,seval,-List.reduceReplicate,reduceCtorEq,allP])<;>rfl
theorem r_by (w:Int) (b:Nat) (hb:W b):R P f_r01_by [.int .i64 w,.int .u64 (b:Int)]=some (.int .i64 ((min (b % 2^cw w) 64:Nat):Int)):=by
  have h1:=n_rCut w b hb
  have e:min (((b % 2^cw w:Nat):Int)) 64=((min (b % 2^cw w) 64:Nat):Int):=by omega
  have e2:=i64_w (x:=min (b % 2^cw w) 64) (by omega)
  (rw [r_r01_by (lbY rfl),F_r01_by];simp (disch:=omega) only [eqY,↓gc_len,seval,-List.reduceReplicate,reduceCtorEq,allP,q_r01_Cut,h1,e,e2])
theorem r_Eq (w:Int) (a b:Nat) (ha:W a) (hb:W b):R P f_r01_Eq [.int .i64 w,.int .u64 (a:Int),.int .u64 (b:Int)]=some (.int .u64 ((flagN (decide (a % 2^cw w=b % 2^cw w)):Nat):Int)):=by
  have h1:=n_rCut w a ha
  have h2:=n_rCut w b hb
  have h3:=r_truth (decide (a % 2^cw w=b % 2^cw w))
  have hl:((((a % 2^cw w:Nat):Int))=((b % 2^cw w:Nat):Int))=(a % 2^cw w=b % 2^cw w):=by simp only [eq_iff_iff];omega
  (rw [r_r01_Eq (lbY rfl),F_r01_Eq];simp (disch:=omega) only [eqY,↓gc_len,seval,-List.reduceReplicate,reduceCtorEq,allP,q_r01_Cut,h1,h2,hl,q_r01_truth,h3])
theorem r_Ult (w:Int) (a b:Nat) (ha:W a) (hb:W b):R P f_r01_Ult [.int .i64 w,.int .u64 (a:Int),.int .u64 (b:Int)]=some (.int .u64 ((flagN (decide (a % 2^cw w<b % 2^cw w)):Nat):Int)):=by
  have h1:=n_rCut w a ha
  have h2:=n_rCut w b hb
  have h3:=r_truth (decide (a % 2^cw w<b % 2^cw w))
  have hl:((((a % 2^cw w:Nat):Int))<((b % 2^cw w:Nat):Int))=(a % 2^cw w<b % 2^cw w):=by simp only [eq_iff_iff];omega
  (rw [r_r01_Ult (lbY rfl),F_r01_Ult];simp (disch:=omega) only [eqY,↓gc_len,seval,-List.reduceReplicate,reduceCtorEq,allP,q_r01_Cut,h1,h2,hl,q_r01_truth,h3])
theorem r_Slt (w:Int) (a b:Nat) (ha:W a) (hb:W b):R P f_r01_Slt [.int .i64 w,.int .u64 (a:Int),.int .u64 (b:Int)]=some (.int .u64 ((flagN (decide (sgnI (cw w) a<sgnI (cw w) b)):Nat):Int)):=by
  have h1:=r_Signed w a ha
  have h2:=r_Signed w b hb
  have h3:=r_truth (decide (sgnI (cw w) a<sgnI (cw w) b))
  (rw [r_r01_Slt (lbY rfl),F_r01_Slt];simp (disch:=omega) only [eqY,↓gc_len,seval,-List.reduceReplicate,reduceCtorEq,allP,q_r01_Signed,h1,h2,q_r01_truth,h3])
end Go.AE.S
