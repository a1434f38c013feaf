import Derived.Test.YtpccheodgonkkaaGreatB0
set_option linter.unusedSimpArgs false
set_option linter.unusedVariables false
namespace Go.AE.S
open Go Go.AE
variable {τ:Tm} {σ:ag} {rd:Option Nat}
theorem QI(x:Int):IntKind.u64.wrap x=x % 18446744073709551616:=by
 simp[IntKind.wrap,IntKind.bits,IntKind.signed]
theorem w64(n:Nat):IntKind.u64.wrap (n:Int)=((n % 18446744073709551616:Nat):Int):=by
 rw[QI];simp
theorem atP(a b:Nat):IntKind.u64.wrap ((a:Int)+b)=(((a+b) % 18446744073709551616:Nat):Int):=by rw[←w64];simp
theorem atQ(a b:Nat):IntKind.u64.wrap ((a:Int)*b)=(((a*b) % 18446744073709551616:Nat):Int):=by rw[←w64];simp
theorem atY(a b:Nat)(hb:b≤18446744073709551616):IntKind.u64.wrap ((a:Int)-b)=(((a+(18446744073709551616-b)) % 18446744073709551616:Nat):Int):=by
 rw[QI];omega
theorem atT(b:Nat)(hb:b≤18446744073709551616):IntKind.u64.wrap (0-(b:Int))=(((18446744073709551616-b) % 18446744073709551616:Nat):Int):=by
 rw[QI];omega
theorem ao7{a b:Nat}(ha:a<18446744073709551616)(hb:b<18446744073709551616):cA .and (.p (.int .u64 (a:Int))) (.p (.int .u64 (b:Int)))=some (.p (.int .u64 ((a &&& b:Nat):Int))):=by
 rw[alI,u64_and ⟨by omega,by omega⟩ ⟨by omega,by omega⟩]
 rfl
theorem atU{a b:Nat}(ha:a<18446744073709551616)(hb:b<18446744073709551616):cA .or (.p (.int .u64 (a:Int))) (.p (.int .u64 (b:Int)))=some (.p (.int .u64 ((a |||b:Nat):Int))):=by
 rw[auY,u64_or ⟨by omega,by omega⟩ ⟨by omega,by omega⟩]
 rfl
theorem atZ{a b:Nat}(ha:a<18446744073709551616)(hb:b<18446744073709551616):cA .xor (.p (.int .u64 (a:Int))) (.p (.int .u64 (b:Int)))=some (.p (.int .u64 ((a ^^^ b:Nat):Int))):=by
 rw[au2,u64_xor ⟨by omega,by omega⟩ ⟨by omega,by omega⟩]
 rfl
theorem afy{k:IntKind}{a n:Nat}(hn:n≤64):cA .shr (.p (.int .u64 (a:Int))) (.p (.int k (n:Int)))=some (.p (.int .u64 ((a / 2^n:Nat):Int))):=by
 rw[Gb (by omega),show min (n:Int).toNat IntKind.u64.bits=n by(show min (n:Int).toNat 64=n);omega,DE (by omega)]
 rfl
theorem afx{k:IntKind}{a n:Nat}(hn:n≤64):cA .shl (.p (.int .u64 (a:Int))) (.p (.int k (n:Int)))=some (.p (.int .u64 ((a*2^n % 18446744073709551616:Nat):Int))):=by
 rw[afX (by omega),show min (n:Int).toNat IntKind.u64.bits=n by(show min (n:Int).toNat 64=n);omega,←w64]
 simp
theorem atV{a b:Nat}(hb:b≠0)(ha:a<18446744073709551616):cA .quo (.p (.int .u64 (a:Int))) (.p (.int .u64 (b:Int)))=some (.p (.int .u64 ((a / b:Nat):Int))):=by
 rw[auZ (by omega),Int.tdiv_eq_ediv_of_nonneg (by omega)]
 have h:((a:Int) / b)=((a / b:Nat):Int):=by simp
 rw[h,w64,acm (abg (abY a b) ha)]
theorem atW{a b:Nat}(hb:b≠0):cA .rem (.p (.int .u64 (a:Int))) (.p (.int .u64 (b:Int)))=some (.p (.int .u64 ((a % b:Nat):Int))):=by
 rw[au0 (by omega),Int.tmod_eq_emod_of_nonneg (by omega)]
 simp
theorem ank{a:Nat}(ha:a<18446744073709551616):acQ (.p (.int .u64 (a:Int)))=some (.p (.int .u64 ((18446744073709551615-a:Nat):Int))):=by
 have h1:G0 18446744073709551615:=⟨by decide,by decide⟩
 have h2:G0 (a:Int):=⟨by omega,by omega⟩
 have h:acQ (.p (.int .u64 (a:Int)))=some (.p (.int .u64 (IntKind.u64.wrap (BitVec.ofInt IntKind.u64.bits 18446744073709551615 ^^^ BitVec.ofInt IntKind.u64.bits a).toNat))):=rfl;rw[h,u64_xor h1 h2]
 have e:(18446744073709551615:Int).toNat ^^^ (a:Int).toNat=18446744073709551615-a:=by
  have:(18446744073709551615:Int).toNat=2^64-1:=rfl;rw[this,ack,Nat.xor_comm];apply Nat.eq_of_testBit_eq;intro i;have e2:18446744073709551615-a=2^64-(a+1):=by omega
  rw[Nat.testBit_xor,Nat.testBit_two_pow_sub_one,e2,Nat.testBit_two_pow_sub_succ (by omega)]
  by_cases hi:i<64
  ·simp[hi]
  ·have:a.testBit i=false:=Nat.testBit_lt_two_pow (VI (show a<2^64 by omega) (aa7 (by omega) (by omega)))
   simp[hi,this]
 rw[e]
def cw(w:Int):Nat:=(fM w).toNat
theorem xN(w:Int):1≤cw w∧cw w≤64:=by have:=Dx w;unfold cw;omega
theorem amI(w:Int):fM w=((cw w:Nat):Int):=by have:=Dx w;unfold cw;omega
theorem apK{c:Nat}(h:1≤c∧c≤64):cw (c:Int)=c:=by unfold cw fM;omega
theorem Tc{c:Nat}(h:c≤64):2^c≤18446744073709551616:=by
 have h1:2^c≤2^64:=aa7 (by omega) h
 exact h1
theorem anM{c:Nat}(h:c≤64):2^c ∣ 18446744073709551616:=by
 have h1:2^c ∣ 2^64:=Nat.pow_dvd_pow 2 h;exact h1
theorem XY{c:Nat}(h:c≤64)(x:Nat):x % 18446744073709551616 % 2^c=x % 2^c:=Nat.mod_mod_of_dvd x (anM h)
theorem acR{c:Nat}(h:c≤64)(x:Nat):x % 2^c<18446744073709551616:=VI (QO _ (Nc (by omega))) (Tc h)
theorem mC(w:Int)(x:Nat)(hx:x<18446744073709551616):R P bN [.int .i64 w,.int .u64 (x:Int)]=some (.int .u64 ((x % 2^cw w:Nat):Int)):=by
 rw[Qf w x ⟨by omega,by omega⟩]
 rfl
theorem H7(w:Int):R P fY [.int .i64 w]=some (.int .i64 ((cw w:Nat):Int)):=by rw[IY,amI]
theorem aki(w:Int):R P j4 [.int .i64 w]=some (.int .u64 ((2^cw w-1:Nat):Int)):=LA w
abbrev W(x:Nat):Prop:=x<18446744073709551616
def zs(c a:Nat):Int:=if a % 2^c<2^(c-1)then((a % 2^c:Nat):Int)else((a % 2^c:Nat):Int)-((2^c:Nat):Int)
def Bl(b:Bool):Nat:=if b=true then 1 else 0
def Zm(c a b:Nat):Nat:=if b % 2^c=0 then 2^c-1 else a % 2^c / (b % 2^c)
def Zp(c a b:Nat):Nat:=if b % 2^c=0 then a % 2^c else a % 2^c % (b % 2^c)
def ahV(c a b:Nat):Nat:=if c≤b % 2^c then 0 else(a % 2^c*2^(b % 2^c)) % 2^c
def H4(c a b:Nat):Nat:=if c≤b % 2^c then 0 else a % 2^c / 2^(b % 2^c)
def Nl(c a b:Nat):Nat:=if a % 2^c<2^(c-1)then H4 c a b else if c≤b % 2^c then 2^c-1 else a % 2^c / 2^(b % 2^c)+(2^c-2^(c-b % 2^c))
def MO(ca cb a b:Nat):Nat:=(a % 2^ca*2^cb % 18446744073709551616) |||(b % 2^cb)
def Hq(low:Int)(c x:Nat):Nat:=if low<0 then 0 else(x / 2^min low.toNat 64) % 2^c
def afP(cf ct x:Nat):Nat:=(if x % 2^cf<2^(cf-1)then x % 2^cf else x % 2^cf+(18446744073709551616-2^cf)) % 2^ct
theorem atJ(w:Int)(a:Nat)(ha:W a):R P sd [.int .i64 w,.int .u64 (a:Int)]=some (.int .u64 (((18446744073709551615-a) % 2^cw w:Nat):Int)):=by
 have h:=mC w (18446744073709551615-a) (by omega)
 (rw[adY (aD rfl),yG];simp(disch:=omega)only[bK,↓aa,seval,-List.reduceReplicate,reduceCtorEq,ae,ank,cr,h])
theorem atI(w:Int)(a:Nat)(ha:W a):R P r9 [.int .i64 w,.int .u64 (a:Int)]=some (.int .u64 (((18446744073709551616-a) % 2^cw w:Nat):Int)):=by
 have h:=mC w ((18446744073709551616-a) % 18446744073709551616) (by omega)
 have hn:=atT a (Nat.le_of_lt ha)
 (rw[adX (aD rfl),yF];simp(disch:=omega)only[bK,↓aa,seval,-List.reduceReplicate,reduceCtorEq,ae,hn,cr,h])
 rw[XY (xN w).2]
theorem atF(w:Int)(a b:Nat)(ha:W a)(hb:W b):R P r7 [.int .i64 w,.int .u64 (a:Int),.int .u64 (b:Int)]=some (.int .u64 (((a &&& b) % 2^cw w:Nat):Int)):=by
 have h:=mC w (a &&& b) (abg Nat.and_le_left ha);have hx:=ao7 ha hb
 (rw[adU (aD rfl),yC];simp(disch:=omega)only[bK,↓aa,seval,-List.reduceReplicate,reduceCtorEq,ae,hx,cr,h])
theorem avH(w:Int)(a b:Nat)(ha:W a)(hb:W b):R P vA [.int .i64 w,.int .u64 (a:Int),.int .u64 (b:Int)]=some (.int .u64 (((a |||b) % 2^cw w:Nat):Int)):=by
 have h:=mC w (a |||b) (Nat.or_lt_two_pow (n:=64) ha hb)
 have hx:=atU ha hb
 (rw[ahG (aD rfl),A7];simp(disch:=omega)only[bK,↓aa,seval,-List.reduceReplicate,reduceCtorEq,ae,hx,cr,h])
theorem atO(w:Int)(a b:Nat)(ha:W a)(hb:W b):R P sj [.int .i64 w,.int .u64 (a:Int),.int .u64 (b:Int)]=some (.int .u64 (((a ^^^ b) % 2^cw w:Nat):Int)):=by
 have h:=mC w (a ^^^ b) (Nat.xor_lt_two_pow (n:=64) ha hb);have hx:=atZ ha hb
 (rw[ad3 (aD rfl),yL];simp(disch:=omega)only[bK,↓aa,seval,-List.reduceReplicate,reduceCtorEq,ae,hx,cr,h])
theorem atD(w:Int)(a b:Nat)(ha:W a)(hb:W b):R P r6 [.int .i64 w,.int .u64 (a:Int),.int .u64 (b:Int)]=some (.int .u64 (((a+b) % 2^cw w:Nat):Int)):=by
 have h:=mC w ((a+b) % 18446744073709551616) (QO _ (by omega))
 have hx:=atP a b
 (rw[adT (aD rfl),yB];simp(disch:=omega)only[bK,↓aa,seval,-List.reduceReplicate,reduceCtorEq,ae,hx,cr,h])
 rw[XY (xN w).2]
theorem atM(w:Int)(a b:Nat)(ha:W a)(hb:W b):R P sg [.int .i64 w,.int .u64 (a:Int),.int .u64 (b:Int)]=some (.int .u64 (((a+(18446744073709551616-b)) % 2^cw w:Nat):Int)):=by
 have h:=mC w ((a+(18446744073709551616-b)) % 18446744073709551616) (QO _ (by omega))
 have hx:=atY a b (Nat.le_of_lt hb)
 (rw[ad1 (aD rfl),yJ];simp(disch:=omega)only[bK,↓aa,seval,-List.reduceReplicate,reduceCtorEq,ae,hx,cr,h])
 rw[XY (xN w).2]
theorem atH(w:Int)(a b:Nat)(ha:W a)(hb:W b):R P r8 [.int .i64 w,.int .u64 (a:Int),.int .u64 (b:Int)]=some (.int .u64 (((a*b) % 2^cw w:Nat):Int)):=by
 have h:=mC w ((a*b) % 18446744073709551616) (QO _ (by omega))
 have hx:=atQ a b
 (rw[adW (aD rfl),yE];simp(disch:=omega)only[bK,↓aa,seval,-List.reduceReplicate,reduceCtorEq,ae,hx,cr,h])
 rw[XY (xN w).2]
theorem aqs(w:Int)(a b:Nat)(ha:W a)(hb:W b):R P pV [.int .i64 w,.int .u64 (a:Int),.int .u64 (b:Int)]=some (.int .u64 ((Zm (cw w) a b:Nat):Int)):=by
 have h1:=mC w a ha;have h2:=mC w b hb;have h3:=aki w;have l1:=acR (xN w).2 a;unfold Zm;by_cases h0:b % 2^cw w=0
 ·rw[if_pos h0]
  have hz:(((b % 2^cw w:Nat):Int)=0)=True:=by simp only[eq_iff_iff,iff_true];omega
  (rw[Lr (aD rfl),sD];simp(disch:=omega)only[bK,↓aa,seval,-List.reduceReplicate,reduceCtorEq,ae,cr,h1,h2,hz,Eu,h3])
 ·rw[if_neg h0]
  have hz:(((b % 2^cw w:Nat):Int)=0)=False:=by simp only[eq_iff_iff,iff_false];omega
  have hq:=atV (a:=a % 2^cw w) (b:=b % 2^cw w) h0 l1
  (rw[Lr (aD rfl),sD];simp(disch:=omega)only[bK,↓aa,seval,-List.reduceReplicate,reduceCtorEq,ae,cr,h1,h2,hz,hq])
theorem aqt(w:Int)(a b:Nat)(ha:W a)(hb:W b):R P pW [.int .i64 w,.int .u64 (a:Int),.int .u64 (b:Int)]=some (.int .u64 ((Zp (cw w) a b:Nat):Int)):=by
 have h1:=mC w a ha;have h2:=mC w b hb;unfold Zp;by_cases h0:b % 2^cw w=0
 ·rw[if_pos h0]
  have hz:(((b % 2^cw w:Nat):Int)=0)=True:=by simp only[eq_iff_iff,iff_true];omega
  (rw[Ls (aD rfl),sE];simp(disch:=omega)only[bK,↓aa,seval,-List.reduceReplicate,reduceCtorEq,ae,cr,h1,h2,hz])
 ·rw[if_neg h0]
  have hz:(((b % 2^cw w:Nat):Int)=0)=False:=by simp only[eq_iff_iff,iff_false];omega
  have hq:=atW (a:=a % 2^cw w) (b:=b % 2^cw w) h0
  (rw[Ls (aD rfl),sE];simp(disch:=omega)only[bK,↓aa,seval,-List.reduceReplicate,reduceCtorEq,ae,cr,h1,h2,hz,hq])
theorem akl(b:Bool):R P nD [.bool b]=some (.int .u64 ((Bl b:Nat):Int)):=by
 cases b<;>(rw[Yp (aD rfl),wO];simp(disch:=omega)only[bK,↓aa,seval,-List.reduceReplicate,reduceCtorEq,ae])<;>rfl
theorem atN(w:Int)(a b:Nat)(ha:W a)(hb:W b):R P si [.int .i64 w,.int .u64 (a:Int),.int .u64 (b:Int)]=some (.int .u64 ((Bl (decide (a % 2^cw w<b % 2^cw w)):Nat):Int)):=by
 have h1:=mC w a ha;have h2:=mC w b hb;have h3:=akl (decide (a % 2^cw w<b % 2^cw w));have hl:((((a % 2^cw w:Nat):Int))<((b % 2^cw w:Nat):Int))=(a % 2^cw w<b % 2^cw w):=by simp only[eq_iff_iff];omega
 (rw[ad2 (aD rfl),yK];simp(disch:=omega)only[bK,↓aa,seval,-List.reduceReplicate,reduceCtorEq,ae,cr,h1,h2,hl,Lm,h3])
theorem ap3(x:Nat)(hx:W x):IntKind.i64.wrap (x:Int)=if x<9223372036854775808 then(x:Int)else(x:Int)-18446744073709551616:=by
 simp[IntKind.wrap,IntKind.bits,IntKind.signed];split<;>split<;>omega
theorem akO{c:Nat}(h:1≤c):2^c=2*2^(c-1):=by
 obtain⟨d,rfl⟩:∃d,c=d+1:=⟨c-1,by omega⟩
 rw[Nat.pow_succ,Nat.add_sub_cancel];omega
theorem Td{c:Nat}(h:c≤64):2^c*2^(64-c)=18446744073709551616:=by
 rw[←Nat.pow_add,show c+(64-c)=64 by omega]
theorem Oh(m:Int)(k:Nat):(m*((2^k:Nat):Int)).fdiv (2^k)=m:=by
 have hp:(0:Int)<2^k:=Int.pow_pos (by omega)
 have e:((2^k:Nat):Int)=2^k:=by simp
 rw[e,Int.mul_fdiv_cancel _ (by omega)]
theorem arn{c:Nat}(h:1≤c∧c≤64)(a:Nat):(IntKind.i64.wrap ((a*2^(64-c) % 18446744073709551616:Nat):Int)).fdiv (2^(64-c))=zs c a:=by
 have hs:=Td h.2;have hh:=akO h.1;have e:a*2^(64-c) % 18446744073709551616=a % 2^c*2^(64-c):=by rw[←hs,Nat.mul_mod_mul_right]
 rw[e,ap3 _ (by rw[←e];exact QO _ (by omega))]
 unfold zs;have hm:a % 2^c<2^c:=QO _ (Nc (by omega))
 generalize a % 2^c=m at *;have hp:0<2^(64-c):=Nc (by omega)
 have h2:2^(c-1)*2^(64-c)=9223372036854775808:=by
  rw[hh,Nat.mul_assoc]at hs;omega
 by_cases hlt:m<2^(c-1)
 ·have:m*2^(64-c)<9223372036854775808:=by rw[←h2];exact Nat.mul_lt_mul_of_pos_right hlt hp
  rw[if_pos this,if_pos hlt,acn,Oh]
 ·have:¬m*2^(64-c)<9223372036854775808:=by
   have:=MK (2^(64-c)) (Nat.le_of_not_lt hlt);omega
  rw[if_neg this,if_neg hlt]
  have e2:((m*2^(64-c):Nat):Int)-18446744073709551616=((m:Int)-((2^c:Nat):Int))*((2^(64-c):Nat):Int):=by
   rw[Int.sub_mul,←acn,←acn,hs];rfl
  rw[e2,Oh]
theorem H6(w:Int)(a:Nat)(ha:W a):R P eZ [.int .i64 w,.int .u64 (a:Int)]=some (.int .i64 (zs (cw w) a)):=by
 have hc:=xN w;have h1:=H7 w;have hw:IntKind.i64.wrap (64-((cw w:Nat):Int))=((64-cw w:Nat):Int):=by rw[IntWalk.i64_in _ (by omega)];omega
 have hs:=afx (k:=.i64) (a:=a) (n:=64-cw w) (by omega)
 have hv:cA .shr (.p (.int .i64 (IntKind.i64.wrap ((a*2^(64-cw w) % 18446744073709551616:Nat):Int)))) (.p (.int .i64 ((64-cw w:Nat):Int)))=some (.p (.int .i64 (zs (cw w) a))):=by
  rw[Gb (by omega),show min ((64-cw w:Nat):Int).toNat IntKind.i64.bits=64-cw w by(show min ((64-cw w:Nat):Int).toNat 64=_);omega,arn hc]
 (rw[RD (aD rfl),q9];simp(disch:=omega)only[bK,↓aa,seval,-List.reduceReplicate,reduceCtorEq,ae,gA,h1,hw,hs,hv])
theorem an5{c:Nat}(a:Nat):zs c (a % 2^c)=zs c a:=by unfold zs;rw[Nat.mod_mod]
theorem atL(w:Int)(a b:Nat)(ha:W a)(hb:W b):R P sf [.int .i64 w,.int .u64 (a:Int),.int .u64 (b:Int)]=some (.int .u64 ((Bl (decide (zs (cw w) a<zs (cw w) b)):Nat):Int)):=by
 have h1:=H6 w a ha;have h2:=H6 w b hb;have h3:=akl (decide (zs (cw w) a<zs (cw w) b))
 (rw[ad0 (aD rfl),yI];simp(disch:=omega)only[bK,↓aa,seval,-List.reduceReplicate,reduceCtorEq,ae,oT,h1,h2,Lm,h3])
theorem akh(wa wb:Int)(a b:Nat)(ha:W a)(hb:W b):R P ml [.int .i64 wa,.int .i64 wb,.int .u64 (a:Int),.int .u64 (b:Int)]=some (.int .u64 ((MO (cw wa) (cw wb) a b:Nat):Int)):=by
 have h1:=mC wa a ha;have h2:=mC wb b hb;have h3:=H7 wb;have hs:=afx (k:=.i64) (a:=a % 2^cw wa) (n:=cw wb) (xN wb).2;have ho:=atU (a:=a % 2^cw wa*2^cw wb % 18446744073709551616) (b:=b % 2^cw wb) (QO _ (by omega)) (acR (xN wb).2 b)
 (rw[RC (aD rfl),q8];simp(disch:=omega)only[bK,↓aa,seval,-List.reduceReplicate,reduceCtorEq,ae,cr,h1,h2,gA,h3,hs,ho])
 rfl
theorem ahr(low w:Int)(x:Nat)(hx:W x):R P kE [.int .i64 low,.int .i64 w,.int .u64 (x:Int)]=some (.int .u64 ((Hq low (cw w) x:Nat):Int)):=by
 unfold Hq;by_cases h0:low<0
 ·have hz:(low<0)=True:=by simp[h0]
  rw[if_pos h0]
  (rw[EB (aD rfl),mO];simp(disch:=omega)only[bK,↓aa,seval,-List.reduceReplicate,reduceCtorEq,ae,hz])
 ·have hz:(low<0)=False:=by simp[h0]
  rw[if_neg h0]
  have hs:cA .shr (.p (.int .u64 (x:Int))) (.p (.int .i64 low))=some (.p (.int .u64 ((x / 2^min low.toNat 64:Nat):Int))):=by
   rw[Gb (by omega),DE (by omega)]
   rfl
  have h1:=mC w (x / 2^min low.toNat 64) (abg (abY _ _) hx)
  (rw[EB (aD rfl),mO];simp(disch:=omega)only[bK,↓aa,seval,-List.reduceReplicate,reduceCtorEq,ae,hz,hs,cr,h1])
theorem an6{c:Nat}(h:1≤c∧c≤64)(a:Nat):IntKind.u64.wrap (zs c a)=(((if a % 2^c<2^(c-1)then a % 2^c else a % 2^c+(18446744073709551616-2^c):Nat)):Int):=by
 have hm:a % 2^c<2^c:=QO _ (Nc (by omega))
 have hp:=Tc h.2;rw[QI];unfold zs;split<;>omega
theorem aqr(wf wt:Int)(x:Nat)(hx:W x):R P pU [.int .i64 wf,.int .i64 wt,.int .u64 (x:Int)]=some (.int .u64 ((afP (cw wf) (cw wt) x:Nat):Int)):=by
 have h1:=H6 wf x hx;have hu:=an6 (xN wf) x;have hm:x % 2^cw wf<2^cw wf:=QO _ (Nc (by omega))
 have hp:=Tc (xN wf).2;have h2:=mC wt (if x % 2^cw wf<2^(cw wf-1)then x % 2^cw wf else x % 2^cw wf+(18446744073709551616-2^cw wf)) (by split<;>omega)
 unfold afP
 (rw[Yo (aD rfl),wN];simp(disch:=omega)only[bK,↓aa,seval,-List.reduceReplicate,reduceCtorEq,ae,oT,h1,hu,cr,h2])
theorem Ao{c n:Nat}(h:n≤c):2^(c-n)*2^n=2^c:=by rw[←Nat.pow_add,Nat.sub_add_cancel h]
theorem fdiv_pow{m:Int}{k:Nat}:m.fdiv (2^k)=m / ((2^k:Nat):Int):=by
 have hp:(0:Int)≤2^k:=Int.le_of_lt (Int.pow_pos (by omega))
 rw[Int.fdiv_eq_ediv_of_nonneg _ hp];simp
theorem anm{c n m:Nat}(hc:c≤64)(hn:n<c)(hm:m<2^c):IntKind.u64.wrap (((m:Int)-((2^c:Nat):Int)).fdiv (2^n))=((m / 2^n+(18446744073709551616-2^(c-n)):Nat):Int):=by
 have hs:=Ao (Nat.le_of_lt hn);have hp:0<2^n:=Nc (by omega)
 have ht:2^(c-n)≤18446744073709551616:=Tc (by omega)
 have hr:m / 2^n<2^(c-n):=by
  rw[ach hp,hs];exact hm
 have e:((m:Int)-((2^c:Nat):Int)).fdiv (2^n)=((m / 2^n:Nat):Int)-((2^(c-n):Nat):Int):=by
  rw[fdiv_pow,←hs,acn,Int.sub_mul_ediv_right _ _ (by omega)]
  simp
 rw[e,QI];generalize m / 2^n=r at *;generalize 2^(c-n)=t at *;omega
theorem anl{c n m:Nat}(hc:c≤64)(hn:n<c)(hm:m<2^c):(m / 2^n+(18446744073709551616-2^(c-n))) % 2^c=m / 2^n+(2^c-2^(c-n)):=by
 have hs:=Ao (Nat.le_of_lt hn);have hp:0<2^n:=Nc (by omega)
 have hr:m / 2^n<2^(c-n):=by
  rw[ach hp,hs];exact hm
 have ht:2^(c-n)≤2^c:=aa7 (by omega) (by omega)
 have hq:=Td hc;have hq0:0<2^(64-c):=Nc (by omega)
 obtain⟨q,hqq⟩:∃q,2^(64-c)=q+1:=⟨2^(64-c)-1,by omega⟩
 rw[hqq,Nat.mul_succ]at hq;have e:m / 2^n+(18446744073709551616-2^(c-n))=m / 2^n+(2^c-2^(c-n))+2^c*q:=by omega
 rw[e,Nat.add_mul_mod_self_left,acm (by omega)]
theorem c64(w:Int):IntKind.u64.wrap ((cw w:Nat):Int)=((cw w:Nat):Int):=by have:=xN w;rw[w64,acm (by omega)]
theorem akm(w:Int)(a b:Nat)(ha:W a)(hb:W b):R P fZ [.int .i64 0,.int .i64 w,.int .u64 (a:Int),.int .u64 (b:Int)]=some (.int .u64 ((ahV (cw w) a b:Nat):Int)):=by
 have h1:=mC w a ha;have h2:=mC w b hb;have h3:=H7 w;have hc:=xN w;have h4:=c64 w;unfold ahV;by_cases hf:cw w≤b % 2^cw w
 ·have hg:((((cw w:Nat):Int))≤((b % 2^cw w:Nat):Int))=True:=by simp only[eq_iff_iff,iff_true];omega
  rw[if_pos hf]
  (rw[lZ (aD rfl),fo];simp(disch:=omega)only[bK,↓aa,seval,-List.reduceReplicate,reduceCtorEq,ae,cr,h1,h2,gA,h3,h4,ge_iff_le,hg])
 ·have hg:((((cw w:Nat):Int))≤((b % 2^cw w:Nat):Int))=False:=by simp only[eq_iff_iff,iff_false];omega
  rw[if_neg hf];have hs:=afx (k:=.u64) (a:=a % 2^cw w) (n:=b % 2^cw w) (by omega)
  have h5:=mC w (a % 2^cw w*2^(b % 2^cw w) % 18446744073709551616) (QO _ (by omega))
  (rw[lZ (aD rfl),fo];simp(disch:=omega)only[bK,↓aa,seval,-List.reduceReplicate,reduceCtorEq,ae,cr,h1,h2,gA,h3,h4,ge_iff_le,hg,hs,h5])
  rw[XY hc.2]
theorem akn(w:Int)(a b:Nat)(ha:W a)(hb:W b):R P fZ [.int .i64 1,.int .i64 w,.int .u64 (a:Int),.int .u64 (b:Int)]=some (.int .u64 ((H4 (cw w) a b:Nat):Int)):=by
 have h1:=mC w a ha;have h2:=mC w b hb;have h3:=H7 w;have hc:=xN w;have h4:=c64 w;unfold H4;by_cases hf:cw w≤b % 2^cw w
 ·have hg:((((cw w:Nat):Int))≤((b % 2^cw w:Nat):Int))=True:=by simp only[eq_iff_iff,iff_true];omega
  rw[if_pos hf]
  (rw[lZ (aD rfl),fo];simp(disch:=omega)only[bK,↓aa,seval,-List.reduceReplicate,reduceCtorEq,ae,cr,h1,h2,gA,h3,h4,ge_iff_le,hg])
 ·have hg:((((cw w:Nat):Int))≤((b % 2^cw w:Nat):Int))=False:=by simp only[eq_iff_iff,iff_false];omega
  rw[if_neg hf];have hs:=afy (k:=.u64) (a:=a % 2^cw w) (n:=b % 2^cw w) (by omega)
  (rw[lZ (aD rfl),fo];simp(disch:=omega)only[bK,↓aa,seval,-List.reduceReplicate,reduceCtorEq,ae,cr,h1,h2,gA,h3,h4,ge_iff_le,hg,hs])
theorem ako(w:Int)(a b:Nat)(ha:W a)(hb:W b):R P fZ [.int .i64 2,.int .i64 w,.int .u64 (a:Int),.int .u64 (b:Int)]=some (.int .u64 ((Nl (cw w) a b:Nat):Int)):=by
 have h1:=mC w a ha;have h2:=mC w b hb;have h3:=H7 w;have hc:=xN w;have h4:=c64 w;have hm:a % 2^cw w<2^cw w:=QO _ (Nc (by omega))
 have h6:=H6 w (a % 2^cw w) (acR hc.2 a);have h7:=aki w;rw[an5]at h6;unfold Nl;by_cases hsg:a % 2^cw w<2^(cw w-1)
 ·have hz:(zs (cw w) a<0)=False:=by unfold zs;rw[if_pos hsg];simp only[eq_iff_iff,iff_false];omega
  rw[if_pos hsg];unfold H4;by_cases hf:cw w≤b % 2^cw w
  ·have hg:((((cw w:Nat):Int))≤((b % 2^cw w:Nat):Int))=True:=by simp only[eq_iff_iff,iff_true];omega
   rw[if_pos hf]
   (rw[lZ (aD rfl),fo];simp(disch:=omega)only[bK,↓aa,seval,-List.reduceReplicate,reduceCtorEq,ae,cr,h1,h2,gA,h3,h4,ge_iff_le,hg,oT,h6,hz])
  ·have hg:((((cw w:Nat):Int))≤((b % 2^cw w:Nat):Int))=False:=by simp only[eq_iff_iff,iff_false];omega
   rw[if_neg hf];have hs:=afy (k:=.u64) (a:=a % 2^cw w) (n:=b % 2^cw w) (by omega)
   (rw[lZ (aD rfl),fo];simp(disch:=omega)only[bK,↓aa,seval,-List.reduceReplicate,reduceCtorEq,ae,cr,h1,h2,gA,h3,h4,ge_iff_le,hg,oT,h6,hz,hs])
 ·have hz:(zs (cw w) a<0)=True:=by unfold zs;rw[if_neg hsg];simp only[eq_iff_iff,iff_true];omega
  rw[if_neg hsg];by_cases hf:cw w≤b % 2^cw w
  ·have hg:((((cw w:Nat):Int))≤((b % 2^cw w:Nat):Int))=True:=by simp only[eq_iff_iff,iff_true];omega
   rw[if_pos hf]
   (rw[lZ (aD rfl),fo];simp(disch:=omega)only[bK,↓aa,seval,-List.reduceReplicate,reduceCtorEq,ae,cr,h1,h2,gA,h3,h4,ge_iff_le,hg,oT,h6,hz,Eu,h7])
  ·have hg:((((cw w:Nat):Int))≤((b % 2^cw w:Nat):Int))=False:=by simp only[eq_iff_iff,iff_false];omega
   rw[if_neg hf];have hn:b % 2^cw w<cw w:=by omega
   have hs:cA .shr (.p (.int .i64 (zs (cw w) a))) (.p (.int .u64 ((b % 2^cw w:Nat):Int)))=some (.p (.int .i64 ((((a % 2^cw w:Nat):Int)-((2^cw w:Nat):Int)).fdiv (2^(b % 2^cw w))))):=by
    rw[Gb (by omega),show min ((b % 2^cw w:Nat):Int).toNat IntKind.i64.bits=b % 2^cw w by(show min ((b % 2^cw w:Nat):Int).toNat 64=_);omega]
    unfold zs;rw[if_neg hsg]
   have hw:=anm hc.2 hn hm;have hk:=anl hc.2 hn hm
   have h5:=mC w (a % 2^cw w / 2^(b % 2^cw w)+(18446744073709551616-2^(cw w-b % 2^cw w))) (by
    have:a % 2^cw w / 2^(b % 2^cw w)<2^(cw w-b % 2^cw w):=by
     rw[ach (Nc (by omega)),Ao (by omega)];exact hm
    have:=Tc (c:=cw w-b % 2^cw w) (by omega)
    omega)
   rw[hk]at h5
   (rw[lZ (aD rfl),fo];simp(disch:=omega)only[bK,↓aa,seval,-List.reduceReplicate,reduceCtorEq,ae,cr,h1,h2,gA,h3,h4,ge_iff_le,hg,oT,h6,hz,hs,hw,h5])
theorem atK(w:Int)(a b:Nat)(ha:W a)(hb:W b):R P se [.int .i64 w,.int .u64 (a:Int),.int .u64 (b:Int)]=some (.int .u64 ((ahV (cw w) a b:Nat):Int)):=by
 have h:=akm w a b ha hb
 (rw[adZ (aD rfl),yH];simp(disch:=omega)only[bK,↓aa,seval,-List.reduceReplicate,reduceCtorEq,ae,Cx,h])
theorem aqq(w:Int)(a b:Nat)(ha:W a)(hb:W b):R P pT [.int .i64 w,.int .u64 (a:Int),.int .u64 (b:Int)]=some (.int .u64 ((H4 (cw w) a b:Nat):Int)):=by
 have h:=akn w a b ha hb
 (rw[Ym (aD rfl),wL];simp(disch:=omega)only[bK,↓aa,seval,-List.reduceReplicate,reduceCtorEq,ae,Cx,h])
theorem aqp(w:Int)(a b:Nat)(ha:W a)(hb:W b):R P pS [.int .i64 w,.int .u64 (a:Int),.int .u64 (b:Int)]=some (.int .u64 ((Nl (cw w) a b:Nat):Int)):=by
 have h:=ako w a b ha hb
 (rw[Yl (aD rfl),wK];simp(disch:=omega)only[bK,↓aa,seval,-List.reduceReplicate,reduceCtorEq,ae,Cx,h])
end Go.AE.S
