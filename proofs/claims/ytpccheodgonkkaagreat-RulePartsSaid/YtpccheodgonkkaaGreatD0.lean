import Derived.Test.YtpccheodgonkkaaGreatB0
set_option linter.unusedSimpArgs false
set_option linter.unusedVariables false
namespace Go.AE.S
open Go Go.AE
variable {τ:Tm} {σ:ae} {rd:Option Nat}
theorem Mw(x:Int):IntKind.u64.wrap x=x % 18446744073709551616:=by
 simp[IntKind.wrap,IntKind.bits,IntKind.signed]
theorem w64(n:Nat):IntKind.u64.wrap (n:Int)=((n % 18446744073709551616:Nat):Int):=by
 rw[Mw];simp
theorem anP(a b:Nat):IntKind.u64.wrap ((a:Int)+b)=(((a+b) % 18446744073709551616:Nat):Int):=by rw[←w64];simp
theorem anQ(a b:Nat):IntKind.u64.wrap ((a:Int)*b)=(((a*b) % 18446744073709551616:Nat):Int):=by rw[←w64];simp
theorem anV(a b:Nat)(hb:b≤18446744073709551616):IntKind.u64.wrap ((a:Int)-b)=(((a+(18446744073709551616-b)) % 18446744073709551616:Nat):Int):=by
 rw[Mw];omega
theorem anR(b:Nat)(hb:b≤18446744073709551616):IntKind.u64.wrap (0-(b:Int))=(((18446744073709551616-b) % 18446744073709551616:Nat):Int):=by
 rw[Mw];omega
theorem ai9{a b:Nat}(ha:a<18446744073709551616)(hb:b<18446744073709551616):cu .and (.p (.int .u64 (a:Int))) (.p (.int .u64 (b:Int)))=some (.p (.int .u64 ((a &&& b:Nat):Int))):=by
 rw[ajr,u64_and ⟨by omega,by omega⟩ ⟨by omega,by omega⟩]
 rfl
theorem anS{a b:Nat}(ha:a<18446744073709551616)(hb:b<18446744073709551616):cu .or (.p (.int .u64 (a:Int))) (.p (.int .u64 (b:Int)))=some (.p (.int .u64 ((a |||b:Nat):Int))):=by
 rw[apY,u64_or ⟨by omega,by omega⟩ ⟨by omega,by omega⟩]
 rfl
theorem anW{a b:Nat}(ha:a<18446744073709551616)(hb:b<18446744073709551616):cu .xor (.p (.int .u64 (a:Int))) (.p (.int .u64 (b:Int)))=some (.p (.int .u64 ((a ^^^ b:Nat):Int))):=by
 rw[aoS,u64_xor ⟨by omega,by omega⟩ ⟨by omega,by omega⟩]
 rfl
theorem X3{k:IntKind}{a n:Nat}(hn:n≤64):cu .shr (.p (.int .u64 (a:Int))) (.p (.int k (n:Int)))=some (.p (.int .u64 ((a / 2^n:Nat):Int))):=by
 rw[F2 (by omega),show min (n:Int).toNat IntKind.u64.bits=n by(show min (n:Int).toNat 64=n);omega,Ev (by omega)]
 rfl
theorem X2{k:IntKind}{a n:Nat}(hn:n≤64):cu .shl (.p (.int .u64 (a:Int))) (.p (.int k (n:Int)))=some (.p (.int .u64 ((a*2^n % 18446744073709551616:Nat):Int))):=by
 rw[aoQ (by omega),show min (n:Int).toNat IntKind.u64.bits=n by(show min (n:Int).toNat 64=n);omega,←w64]
 simp
theorem anT{a b:Nat}(hb:b≠0)(ha:a<18446744073709551616):cu .quo (.p (.int .u64 (a:Int))) (.p (.int .u64 (b:Int)))=some (.p (.int .u64 ((a / b:Nat):Int))):=by
 rw[aoO (by omega),Int.tdiv_eq_ediv_of_nonneg (by omega)]
 have h:((a:Int) / b)=((a / b:Nat):Int):=by simp
 rw[h,w64,acj (abk (abZ a b) ha)]
theorem anU{a b:Nat}(hb:b≠0):cu .rem (.p (.int .u64 (a:Int))) (.p (.int .u64 (b:Int)))=some (.p (.int .u64 ((a % b:Nat):Int))):=by
 rw[aoP (by omega),Int.tmod_eq_emod_of_nonneg (by omega)]
 simp
theorem ahr{a:Nat}(ha:a<18446744073709551616):Vx (.p (.int .u64 (a:Int)))=some (.p (.int .u64 ((18446744073709551615-a:Nat):Int))):=by
 have h1:MD 18446744073709551615:=⟨by decide,by decide⟩
 have h2:MD (a:Int):=⟨by omega,by omega⟩
 have h:Vx (.p (.int .u64 (a:Int)))=some (.p (.int .u64 (IntKind.u64.wrap (BitVec.ofInt IntKind.u64.bits 18446744073709551615 ^^^ BitVec.ofInt IntKind.u64.bits a).toNat))):=rfl;rw[h,u64_xor h1 h2]
 have e:(18446744073709551615:Int).toNat ^^^ (a:Int).toNat=18446744073709551615-a:=by
  have:(18446744073709551615:Int).toNat=2^64-1:=rfl;rw[this,aci,Nat.xor_comm];apply Nat.eq_of_testBit_eq;intro i;have e2:18446744073709551615-a=2^64-(a+1):=by omega
  rw[Nat.testBit_xor,Nat.testBit_two_pow_sub_one,e2,Nat.testBit_two_pow_sub_succ (by omega)]
  by_cases hi:i<64
  ·simp[hi]
  ·have:a.testBit i=false:=Nat.testBit_lt_two_pow (Q7 (show a<2^64 by omega) (aa4 (by omega) (by omega)))
   simp[hi,this]
 rw[e]
def cw(w:Int):Nat:=(iB w).toNat
theorem vE(w:Int):1≤cw w∧cw w≤64:=by have:=El w;unfold cw;omega
theorem agS(w:Int):iB w=((cw w:Nat):Int):=by have:=El w;unfold cw;omega
theorem ajV{c:Nat}(h:1≤c∧c≤64):cw (c:Int)=c:=by unfold cw iB;omega
theorem OJ{c:Nat}(h:c≤64):2^c≤18446744073709551616:=by
 have h1:2^c≤2^64:=aa4 (by omega) h
 exact h1
theorem ahT{c:Nat}(h:c≤64):2^c ∣ 18446744073709551616:=by
 have h1:2^c ∣ 2^64:=Nat.pow_dvd_pow 2 h;exact h1
theorem S6{c:Nat}(h:c≤64)(x:Nat):x % 18446744073709551616 % 2^c=x % 2^c:=Nat.mod_mod_of_dvd x (ahT h)
theorem Vy{c:Nat}(h:c≤64)(x:Nat):x % 2^c<18446744073709551616:=Q7 (NY _ (MA (by omega))) (OJ h)
theorem lR(w:Int)(x:Nat)(hx:x<18446744073709551616):R P bJ [.int .i64 w,.int .u64 (x:Int)]=some (.int .u64 ((x % 2^cw w:Nat):Int)):=by
 rw[L9 w x ⟨by omega,by omega⟩]
 rfl
theorem E3(w:Int):R P fP [.int .i64 w]=some (.int .i64 ((cw w:Nat):Int)):=by rw[FK,agS]
theorem aey(w:Int):R P jC [.int .i64 w]=some (.int .u64 ((2^cw w-1:Nat):Int)):=H5 w
abbrev W(x:Nat):Prop:=x<18446744073709551616
def xp(c a:Nat):Int:=if a % 2^c<2^(c-1)then((a % 2^c:Nat):Int)else((a % 2^c:Nat):Int)-((2^c:Nat):Int)
def yR(b:Bool):Nat:=if b=true then 1 else 0
def Up(c a b:Nat):Nat:=if b % 2^c=0 then 2^c-1 else a % 2^c / (b % 2^c)
def Us(c a b:Nat):Nat:=if b % 2^c=0 then a % 2^c else a % 2^c % (b % 2^c)
def Z0(c a b:Nat):Nat:=if c≤b % 2^c then 0 else(a % 2^c*2^(b % 2^c)) % 2^c
def E0(c a b:Nat):Nat:=if c≤b % 2^c then 0 else a % 2^c / 2^(b % 2^c)
def Jx(c a b:Nat):Nat:=if a % 2^c<2^(c-1)then E0 c a b else if c≤b % 2^c then 2^c-1 else a % 2^c / 2^(b % 2^c)+(2^c-2^(c-b % 2^c))
def I3(ca cb a b:Nat):Nat:=(a % 2^ca*2^cb % 18446744073709551616) |||(b % 2^cb)
def Eu(low:Int)(c x:Nat):Nat:=if low<0 then 0 else(x / 2^min low.toNat 64) % 2^c
def Yg(cf ct x:Nat):Nat:=(if x % 2^cf<2^(cf-1)then x % 2^cf else x % 2^cf+(18446744073709551616-2^cf)) % 2^ct
theorem anJ(w:Int)(a:Nat)(ha:W a):R P qT [.int .i64 w,.int .u64 (a:Int)]=some (.int .u64 (((18446744073709551615-a) % 2^cw w:Nat):Int)):=by
 have h:=lR w (18446744073709551615-a) (by omega)
 (rw[WB (aO rfl),wE];simp(disch:=omega)only[dZ,↓aa,seval,-List.reduceReplicate,reduceCtorEq,af,ahr,cg,h])
theorem anI(w:Int)(a:Nat)(ha:W a):R P qS [.int .i64 w,.int .u64 (a:Int)]=some (.int .u64 (((18446744073709551616-a) % 2^cw w:Nat):Int)):=by
 have h:=lR w ((18446744073709551616-a) % 18446744073709551616) (by omega)
 have hn:=anR a (Nat.le_of_lt ha)
 (rw[WA (aO rfl),wD];simp(disch:=omega)only[dZ,↓aa,seval,-List.reduceReplicate,reduceCtorEq,af,hn,cg,h])
 rw[S6 (vE w).2]
theorem anG(w:Int)(a b:Nat)(ha:W a)(hb:W b):R P qQ [.int .i64 w,.int .u64 (a:Int),.int .u64 (b:Int)]=some (.int .u64 (((a &&& b) % 2^cw w:Nat):Int)):=by
 have h:=lR w (a &&& b) (abk Nat.and_le_left ha);have hx:=ai9 ha hb
 (rw[Wx (aO rfl),wA];simp(disch:=omega)only[dZ,↓aa,seval,-List.reduceReplicate,reduceCtorEq,af,hx,cg,h])
theorem apA(w:Int)(a b:Nat)(ha:W a)(hb:W b):R P tk [.int .i64 w,.int .u64 (a:Int),.int .u64 (b:Int)]=some (.int .u64 (((a |||b) % 2^cw w:Nat):Int)):=by
 have h:=lR w (a |||b) (Nat.or_lt_two_pow (n:=64) ha hb)
 have hx:=anS ha hb
 (rw[ZS (aO rfl),yG];simp(disch:=omega)only[dZ,↓aa,seval,-List.reduceReplicate,reduceCtorEq,af,hx,cg,h])
theorem anO(w:Int)(a b:Nat)(ha:W a)(hb:W b):R P qY [.int .i64 w,.int .u64 (a:Int),.int .u64 (b:Int)]=some (.int .u64 (((a ^^^ b) % 2^cw w:Nat):Int)):=by
 have h:=lR w (a ^^^ b) (Nat.xor_lt_two_pow (n:=64) ha hb);have hx:=anW ha hb
 (rw[WH (aO rfl),wJ];simp(disch:=omega)only[dZ,↓aa,seval,-List.reduceReplicate,reduceCtorEq,af,hx,cg,h])
theorem anF(w:Int)(a b:Nat)(ha:W a)(hb:W b):R P qP [.int .i64 w,.int .u64 (a:Int),.int .u64 (b:Int)]=some (.int .u64 (((a+b) % 2^cw w:Nat):Int)):=by
 have h:=lR w ((a+b) % 18446744073709551616) (NY _ (by omega))
 have hx:=anP a b
 (rw[Ww (aO rfl),wz];simp(disch:=omega)only[dZ,↓aa,seval,-List.reduceReplicate,reduceCtorEq,af,hx,cg,h])
 rw[S6 (vE w).2]
theorem anM(w:Int)(a b:Nat)(ha:W a)(hb:W b):R P qW [.int .i64 w,.int .u64 (a:Int),.int .u64 (b:Int)]=some (.int .u64 (((a+(18446744073709551616-b)) % 2^cw w:Nat):Int)):=by
 have h:=lR w ((a+(18446744073709551616-b)) % 18446744073709551616) (NY _ (by omega))
 have hx:=anV a b (Nat.le_of_lt hb)
 (rw[WE (aO rfl),wH];simp(disch:=omega)only[dZ,↓aa,seval,-List.reduceReplicate,reduceCtorEq,af,hx,cg,h])
 rw[S6 (vE w).2]
theorem anH(w:Int)(a b:Nat)(ha:W a)(hb:W b):R P qR [.int .i64 w,.int .u64 (a:Int),.int .u64 (b:Int)]=some (.int .u64 (((a*b) % 2^cw w:Nat):Int)):=by
 have h:=lR w ((a*b) % 18446744073709551616) (NY _ (by omega))
 have hx:=anQ a b
 (rw[Wz (aO rfl),wC];simp(disch:=omega)only[dZ,↓aa,seval,-List.reduceReplicate,reduceCtorEq,af,hx,cg,h])
 rw[S6 (vE w).2]
theorem akA(w:Int)(a b:Nat)(ha:W a)(hb:W b):R P oZ [.int .i64 w,.int .u64 (a:Int),.int .u64 (b:Int)]=some (.int .u64 ((Up (cw w) a b:Nat):Int)):=by
 have h1:=lR w a ha;have h2:=lR w b hb;have h3:=aey w;have l1:=Vy (vE w).2 a;unfold Up;by_cases h0:b % 2^cw w=0
 ·rw[if_pos h0]
  have hz:(((b % 2^cw w:Nat):Int)=0)=True:=by simp only[eq_iff_iff,iff_true];omega
  (rw[HY (aO rfl),rf];simp(disch:=omega)only[dZ,↓aa,seval,-List.reduceReplicate,reduceCtorEq,af,cg,h1,h2,hz,BX,h3])
 ·rw[if_neg h0]
  have hz:(((b % 2^cw w:Nat):Int)=0)=False:=by simp only[eq_iff_iff,iff_false];omega
  have hq:=anT (a:=a % 2^cw w) (b:=b % 2^cw w) h0 l1
  (rw[HY (aO rfl),rf];simp(disch:=omega)only[dZ,↓aa,seval,-List.reduceReplicate,reduceCtorEq,af,cg,h1,h2,hz,hq])
theorem akB(w:Int)(a b:Nat)(ha:W a)(hb:W b):R P o6 [.int .i64 w,.int .u64 (a:Int),.int .u64 (b:Int)]=some (.int .u64 ((Us (cw w) a b:Nat):Int)):=by
 have h1:=lR w a ha;have h2:=lR w b hb;unfold Us;by_cases h0:b % 2^cw w=0
 ·rw[if_pos h0]
  have hz:(((b % 2^cw w:Nat):Int)=0)=True:=by simp only[eq_iff_iff,iff_true];omega
  (rw[HZ (aO rfl),rh];simp(disch:=omega)only[dZ,↓aa,seval,-List.reduceReplicate,reduceCtorEq,af,cg,h1,h2,hz])
 ·rw[if_neg h0]
  have hz:(((b % 2^cw w:Nat):Int)=0)=False:=by simp only[eq_iff_iff,iff_false];omega
  have hq:=anU (a:=a % 2^cw w) (b:=b % 2^cw w) h0
  (rw[HZ (aO rfl),rh];simp(disch:=omega)only[dZ,↓aa,seval,-List.reduceReplicate,reduceCtorEq,af,cg,h1,h2,hz,hq])
theorem aeB(b:Bool):R P mM [.bool b]=some (.int .u64 ((yR b:Nat):Int)):=by
 cases b<;>(rw[Tx (aO rfl),ux];simp(disch:=omega)only[dZ,↓aa,seval,-List.reduceReplicate,reduceCtorEq,af])<;>rfl
theorem anN(w:Int)(a b:Nat)(ha:W a)(hb:W b):R P qX [.int .i64 w,.int .u64 (a:Int),.int .u64 (b:Int)]=some (.int .u64 ((yR (decide (a % 2^cw w<b % 2^cw w)):Nat):Int)):=by
 have h1:=lR w a ha;have h2:=lR w b hb;have h3:=aeB (decide (a % 2^cw w<b % 2^cw w));have hl:((((a % 2^cw w:Nat):Int))<((b % 2^cw w:Nat):Int))=(a % 2^cw w<b % 2^cw w):=by simp only[eq_iff_iff];omega
 (rw[WG (aO rfl),wI];simp(disch:=omega)only[dZ,↓aa,seval,-List.reduceReplicate,reduceCtorEq,af,cg,h1,h2,hl,HU,h3])
theorem ake(x:Nat)(hx:W x):IntKind.i64.wrap (x:Int)=if x<9223372036854775808 then(x:Int)else(x:Int)-18446744073709551616:=by
 simp[IntKind.wrap,IntKind.bits,IntKind.signed];split<;>split<;>omega
theorem ae3{c:Nat}(h:1≤c):2^c=2*2^(c-1):=by
 obtain⟨d,rfl⟩:∃d,c=d+1:=⟨c-1,by omega⟩
 rw[Nat.pow_succ,Nat.add_sub_cancel];omega
theorem OK{c:Nat}(h:c≤64):2^c*2^(64-c)=18446744073709551616:=by
 rw[←Nat.pow_add,show c+(64-c)=64 by omega]
theorem Ku(m:Int)(k:Nat):(m*((2^k:Nat):Int)).fdiv (2^k)=m:=by
 have hp:(0:Int)<2^k:=Int.pow_pos (by omega)
 have e:((2^k:Nat):Int)=2^k:=by simp
 rw[e,Int.mul_fdiv_cancel _ (by omega)]
theorem alu{c:Nat}(h:1≤c∧c≤64)(a:Nat):(IntKind.i64.wrap ((a*2^(64-c) % 18446744073709551616:Nat):Int)).fdiv (2^(64-c))=xp c a:=by
 have hs:=OK h.2;have hh:=ae3 h.1;have e:a*2^(64-c) % 18446744073709551616=a % 2^c*2^(64-c):=by rw[←hs,Nat.mul_mod_mul_right]
 rw[e,ake _ (by rw[←e];exact NY _ (by omega))]
 unfold xp;have hm:a % 2^c<2^c:=NY _ (MA (by omega))
 generalize a % 2^c=m at *;have hp:0<2^(64-c):=MA (by omega)
 have h2:2^(c-1)*2^(64-c)=9223372036854775808:=by
  rw[hh,Nat.mul_assoc]at hs;omega
 by_cases hlt:m<2^(c-1)
 ·have:m*2^(64-c)<9223372036854775808:=by rw[←h2];exact Nat.mul_lt_mul_of_pos_right hlt hp
  rw[if_pos this,if_pos hlt,ack,Ku]
 ·have:¬m*2^(64-c)<9223372036854775808:=by
   have:=Jn (2^(64-c)) (Nat.le_of_not_lt hlt);omega
  rw[if_neg this,if_neg hlt]
  have e2:((m*2^(64-c):Nat):Int)-18446744073709551616=((m:Int)-((2^c:Nat):Int))*((2^(64-c):Nat):Int):=by
   rw[Int.sub_mul,←ack,←ack,hs];rfl
  rw[e2,Ku]
theorem E2(w:Int)(a:Nat)(ha:W a):R P eS [.int .i64 w,.int .u64 (a:Int)]=some (.int .i64 (xp (cw w) a)):=by
 have hc:=vE w;have h1:=E3 w;have hw:IntKind.i64.wrap (64-((cw w:Nat):Int))=((64-cw w:Nat):Int):=by rw[IntWalk.i64_in _ (by omega)];omega
 have hs:=X2 (k:=.i64) (a:=a) (n:=64-cw w) (by omega)
 have hv:cu .shr (.p (.int .i64 (IntKind.i64.wrap ((a*2^(64-cw w) % 18446744073709551616:Nat):Int)))) (.p (.int .i64 ((64-cw w:Nat):Int)))=some (.p (.int .i64 (xp (cw w) a))):=by
  rw[F2 (by omega),show min ((64-cw w:Nat):Int).toNat IntKind.i64.bits=64-cw w by(show min ((64-cw w:Nat):Int).toNat 64=_);omega,alu hc]
 (rw[Nt (aO rfl),qe];simp(disch:=omega)only[dZ,↓aa,seval,-List.reduceReplicate,reduceCtorEq,af,gj,h1,hw,hs,hv])
theorem ah8{c:Nat}(a:Nat):xp c (a % 2^c)=xp c a:=by unfold xp;rw[Nat.mod_mod]
theorem anL(w:Int)(a b:Nat)(ha:W a)(hb:W b):R P qV [.int .i64 w,.int .u64 (a:Int),.int .u64 (b:Int)]=some (.int .u64 ((yR (decide (xp (cw w) a<xp (cw w) b)):Nat):Int)):=by
 have h1:=E2 w a ha;have h2:=E2 w b hb;have h3:=aeB (decide (xp (cw w) a<xp (cw w) b))
 (rw[WD (aO rfl),wG];simp(disch:=omega)only[dZ,↓aa,seval,-List.reduceReplicate,reduceCtorEq,af,od,h1,h2,HU,h3])
theorem aex(wa wb:Int)(a b:Nat)(ha:W a)(hb:W b):R P lG [.int .i64 wa,.int .i64 wb,.int .u64 (a:Int),.int .u64 (b:Int)]=some (.int .u64 ((I3 (cw wa) (cw wb) a b:Nat):Int)):=by
 have h1:=lR wa a ha;have h2:=lR wb b hb;have h3:=E3 wb;have hs:=X2 (k:=.i64) (a:=a % 2^cw wa) (n:=cw wb) (vE wb).2;have ho:=anS (a:=a % 2^cw wa*2^cw wb % 18446744073709551616) (b:=b % 2^cw wb) (NY _ (by omega)) (Vy (vE wb).2 b)
 (rw[Ns (aO rfl),qd];simp(disch:=omega)only[dZ,↓aa,seval,-List.reduceReplicate,reduceCtorEq,af,cg,h1,h2,gj,h3,hs,ho])
 rfl
theorem ZF(low w:Int)(x:Nat)(hx:W x):R P jZ [.int .i64 low,.int .i64 w,.int .u64 (x:Int)]=some (.int .u64 ((Eu low (cw w) x:Nat):Int)):=by
 unfold Eu;by_cases h0:low<0
 ·have hz:(low<0)=True:=by simp[h0]
  rw[if_pos h0]
  (rw[B2 (aO rfl),l6];simp(disch:=omega)only[dZ,↓aa,seval,-List.reduceReplicate,reduceCtorEq,af,hz])
 ·have hz:(low<0)=False:=by simp[h0]
  rw[if_neg h0]
  have hs:cu .shr (.p (.int .u64 (x:Int))) (.p (.int .i64 low))=some (.p (.int .u64 ((x / 2^min low.toNat 64:Nat):Int))):=by
   rw[F2 (by omega),Ev (by omega)]
   rfl
  have h1:=lR w (x / 2^min low.toNat 64) (abk (abZ _ _) hx)
  (rw[B2 (aO rfl),l6];simp(disch:=omega)only[dZ,↓aa,seval,-List.reduceReplicate,reduceCtorEq,af,hz,hs,cg,h1])
theorem ah9{c:Nat}(h:1≤c∧c≤64)(a:Nat):IntKind.u64.wrap (xp c a)=(((if a % 2^c<2^(c-1)then a % 2^c else a % 2^c+(18446744073709551616-2^c):Nat)):Int):=by
 have hm:a % 2^c<2^c:=NY _ (MA (by omega))
 have hp:=OJ h.2;rw[Mw];unfold xp;split<;>omega
theorem akz(wf wt:Int)(x:Nat)(hx:W x):R P oY [.int .i64 wf,.int .i64 wt,.int .u64 (x:Int)]=some (.int .u64 ((Yg (cw wf) (cw wt) x:Nat):Int)):=by
 have h1:=E2 wf x hx;have hu:=ah9 (vE wf) x;have hm:x % 2^cw wf<2^cw wf:=NY _ (MA (by omega))
 have hp:=OJ (vE wf).2;have h2:=lR wt (if x % 2^cw wf<2^(cw wf-1)then x % 2^cw wf else x % 2^cw wf+(18446744073709551616-2^cw wf)) (by split<;>omega)
 unfold Yg
 (rw[Tw (aO rfl),uw];simp(disch:=omega)only[dZ,↓aa,seval,-List.reduceReplicate,reduceCtorEq,af,od,h1,hu,cg,h2])
theorem xY{c n:Nat}(h:n≤c):2^(c-n)*2^n=2^c:=by rw[←Nat.pow_add,Nat.sub_add_cancel h]
theorem fdiv_pow{m:Int}{k:Nat}:m.fdiv (2^k)=m / ((2^k:Nat):Int):=by
 have hp:(0:Int)≤2^k:=Int.le_of_lt (Int.pow_pos (by omega))
 rw[Int.fdiv_eq_ediv_of_nonneg _ hp];simp
theorem aht{c n m:Nat}(hc:c≤64)(hn:n<c)(hm:m<2^c):IntKind.u64.wrap (((m:Int)-((2^c:Nat):Int)).fdiv (2^n))=((m / 2^n+(18446744073709551616-2^(c-n)):Nat):Int):=by
 have hs:=xY (Nat.le_of_lt hn);have hp:0<2^n:=MA (by omega)
 have ht:2^(c-n)≤18446744073709551616:=OJ (by omega)
 have hr:m / 2^n<2^(c-n):=by
  rw[acf hp,hs];exact hm
 have e:((m:Int)-((2^c:Nat):Int)).fdiv (2^n)=((m / 2^n:Nat):Int)-((2^(c-n):Nat):Int):=by
  rw[fdiv_pow,←hs,ack,Int.sub_mul_ediv_right _ _ (by omega)]
  simp
 rw[e,Mw];generalize m / 2^n=r at *;generalize 2^(c-n)=t at *;omega
theorem ahs{c n m:Nat}(hc:c≤64)(hn:n<c)(hm:m<2^c):(m / 2^n+(18446744073709551616-2^(c-n))) % 2^c=m / 2^n+(2^c-2^(c-n)):=by
 have hs:=xY (Nat.le_of_lt hn);have hp:0<2^n:=MA (by omega)
 have hr:m / 2^n<2^(c-n):=by
  rw[acf hp,hs];exact hm
 have ht:2^(c-n)≤2^c:=aa4 (by omega) (by omega)
 have hq:=OK hc;have hq0:0<2^(64-c):=MA (by omega)
 obtain⟨q,hqq⟩:∃q,2^(64-c)=q+1:=⟨2^(64-c)-1,by omega⟩
 rw[hqq,Nat.mul_succ]at hq;have e:m / 2^n+(18446744073709551616-2^(c-n))=m / 2^n+(2^c-2^(c-n))+2^c*q:=by omega
 rw[e,Nat.add_mul_mod_self_left,acj (by omega)]
theorem c64(w:Int):IntKind.u64.wrap ((cw w:Nat):Int)=((cw w:Nat):Int):=by have:=vE w;rw[w64,acj (by omega)]
theorem aeC(w:Int)(a b:Nat)(ha:W a)(hb:W b):R P fQ [.int .i64 0,.int .i64 w,.int .u64 (a:Int),.int .u64 (b:Int)]=some (.int .u64 ((Z0 (cw w) a b:Nat):Int)):=by
 have h1:=lR w a ha;have h2:=lR w b hb;have h3:=E3 w;have hc:=vE w;have h4:=c64 w;unfold Z0;by_cases hf:cw w≤b % 2^cw w
 ·have hg:((((cw w:Nat):Int))≤((b % 2^cw w:Nat):Int))=True:=by simp only[eq_iff_iff,iff_true];omega
  rw[if_pos hf]
  (rw[lp (aO rfl),fe];simp(disch:=omega)only[dZ,↓aa,seval,-List.reduceReplicate,reduceCtorEq,af,cg,h1,h2,gj,h3,h4,ge_iff_le,hg])
 ·have hg:((((cw w:Nat):Int))≤((b % 2^cw w:Nat):Int))=False:=by simp only[eq_iff_iff,iff_false];omega
  rw[if_neg hf];have hs:=X2 (k:=.u64) (a:=a % 2^cw w) (n:=b % 2^cw w) (by omega)
  have h5:=lR w (a % 2^cw w*2^(b % 2^cw w) % 18446744073709551616) (NY _ (by omega))
  (rw[lp (aO rfl),fe];simp(disch:=omega)only[dZ,↓aa,seval,-List.reduceReplicate,reduceCtorEq,af,cg,h1,h2,gj,h3,h4,ge_iff_le,hg,hs,h5])
  rw[S6 hc.2]
theorem aeD(w:Int)(a b:Nat)(ha:W a)(hb:W b):R P fQ [.int .i64 1,.int .i64 w,.int .u64 (a:Int),.int .u64 (b:Int)]=some (.int .u64 ((E0 (cw w) a b:Nat):Int)):=by
 have h1:=lR w a ha;have h2:=lR w b hb;have h3:=E3 w;have hc:=vE w;have h4:=c64 w;unfold E0;by_cases hf:cw w≤b % 2^cw w
 ·have hg:((((cw w:Nat):Int))≤((b % 2^cw w:Nat):Int))=True:=by simp only[eq_iff_iff,iff_true];omega
  rw[if_pos hf]
  (rw[lp (aO rfl),fe];simp(disch:=omega)only[dZ,↓aa,seval,-List.reduceReplicate,reduceCtorEq,af,cg,h1,h2,gj,h3,h4,ge_iff_le,hg])
 ·have hg:((((cw w:Nat):Int))≤((b % 2^cw w:Nat):Int))=False:=by simp only[eq_iff_iff,iff_false];omega
  rw[if_neg hf];have hs:=X3 (k:=.u64) (a:=a % 2^cw w) (n:=b % 2^cw w) (by omega)
  (rw[lp (aO rfl),fe];simp(disch:=omega)only[dZ,↓aa,seval,-List.reduceReplicate,reduceCtorEq,af,cg,h1,h2,gj,h3,h4,ge_iff_le,hg,hs])
theorem aeE(w:Int)(a b:Nat)(ha:W a)(hb:W b):R P fQ [.int .i64 2,.int .i64 w,.int .u64 (a:Int),.int .u64 (b:Int)]=some (.int .u64 ((Jx (cw w) a b:Nat):Int)):=by
 have h1:=lR w a ha;have h2:=lR w b hb;have h3:=E3 w;have hc:=vE w;have h4:=c64 w;have hm:a % 2^cw w<2^cw w:=NY _ (MA (by omega))
 have h6:=E2 w (a % 2^cw w) (Vy hc.2 a);have h7:=aey w;rw[ah8]at h6;unfold Jx;by_cases hsg:a % 2^cw w<2^(cw w-1)
 ·have hz:(xp (cw w) a<0)=False:=by unfold xp;rw[if_pos hsg];simp only[eq_iff_iff,iff_false];omega
  rw[if_pos hsg];unfold E0;by_cases hf:cw w≤b % 2^cw w
  ·have hg:((((cw w:Nat):Int))≤((b % 2^cw w:Nat):Int))=True:=by simp only[eq_iff_iff,iff_true];omega
   rw[if_pos hf]
   (rw[lp (aO rfl),fe];simp(disch:=omega)only[dZ,↓aa,seval,-List.reduceReplicate,reduceCtorEq,af,cg,h1,h2,gj,h3,h4,ge_iff_le,hg,od,h6,hz])
  ·have hg:((((cw w:Nat):Int))≤((b % 2^cw w:Nat):Int))=False:=by simp only[eq_iff_iff,iff_false];omega
   rw[if_neg hf];have hs:=X3 (k:=.u64) (a:=a % 2^cw w) (n:=b % 2^cw w) (by omega)
   (rw[lp (aO rfl),fe];simp(disch:=omega)only[dZ,↓aa,seval,-List.reduceReplicate,reduceCtorEq,af,cg,h1,h2,gj,h3,h4,ge_iff_le,hg,od,h6,hz,hs])
 ·have hz:(xp (cw w) a<0)=True:=by unfold xp;rw[if_neg hsg];simp only[eq_iff_iff,iff_true];omega
  rw[if_neg hsg];by_cases hf:cw w≤b % 2^cw w
  ·have hg:((((cw w:Nat):Int))≤((b % 2^cw w:Nat):Int))=True:=by simp only[eq_iff_iff,iff_true];omega
   rw[if_pos hf]
   (rw[lp (aO rfl),fe];simp(disch:=omega)only[dZ,↓aa,seval,-List.reduceReplicate,reduceCtorEq,af,cg,h1,h2,gj,h3,h4,ge_iff_le,hg,od,h6,hz,BX,h7])
  ·have hg:((((cw w:Nat):Int))≤((b % 2^cw w:Nat):Int))=False:=by simp only[eq_iff_iff,iff_false];omega
   rw[if_neg hf];have hn:b % 2^cw w<cw w:=by omega
   have hs:cu .shr (.p (.int .i64 (xp (cw w) a))) (.p (.int .u64 ((b % 2^cw w:Nat):Int)))=some (.p (.int .i64 ((((a % 2^cw w:Nat):Int)-((2^cw w:Nat):Int)).fdiv (2^(b % 2^cw w))))):=by
    rw[F2 (by omega),show min ((b % 2^cw w:Nat):Int).toNat IntKind.i64.bits=b % 2^cw w by(show min ((b % 2^cw w:Nat):Int).toNat 64=_);omega]
    unfold xp;rw[if_neg hsg]
   have hw:=aht hc.2 hn hm;have hk:=ahs hc.2 hn hm
   have h5:=lR w (a % 2^cw w / 2^(b % 2^cw w)+(18446744073709551616-2^(cw w-b % 2^cw w))) (by
    have:a % 2^cw w / 2^(b % 2^cw w)<2^(cw w-b % 2^cw w):=by
     rw[acf (MA (by omega)),xY (by omega)];exact hm
    have:=OJ (c:=cw w-b % 2^cw w) (by omega)
    omega)
   rw[hk]at h5
   (rw[lp (aO rfl),fe];simp(disch:=omega)only[dZ,↓aa,seval,-List.reduceReplicate,reduceCtorEq,af,cg,h1,h2,gj,h3,h4,ge_iff_le,hg,od,h6,hz,hs,hw,h5])
theorem anK(w:Int)(a b:Nat)(ha:W a)(hb:W b):R P qU [.int .i64 w,.int .u64 (a:Int),.int .u64 (b:Int)]=some (.int .u64 ((Z0 (cw w) a b:Nat):Int)):=by
 have h:=aeC w a b ha hb
 (rw[WC (aO rfl),wF];simp(disch:=omega)only[dZ,↓aa,seval,-List.reduceReplicate,reduceCtorEq,af,zW,h])
theorem aky(w:Int)(a b:Nat)(ha:W a)(hb:W b):R P oX [.int .i64 w,.int .u64 (a:Int),.int .u64 (b:Int)]=some (.int .u64 ((E0 (cw w) a b:Nat):Int)):=by
 have h:=aeD w a b ha hb
 (rw[Tu (aO rfl),uu];simp(disch:=omega)only[dZ,↓aa,seval,-List.reduceReplicate,reduceCtorEq,af,zW,h])
theorem akx(w:Int)(a b:Nat)(ha:W a)(hb:W b):R P oW [.int .i64 w,.int .u64 (a:Int),.int .u64 (b:Int)]=some (.int .u64 ((Jx (cw w) a b:Nat):Int)):=by
 have h:=aeE w a b ha hb
 (rw[Tt (aO rfl),ur];simp(disch:=omega)only[dZ,↓aa,seval,-List.reduceReplicate,reduceCtorEq,af,zW,h])
end Go.AE.S
