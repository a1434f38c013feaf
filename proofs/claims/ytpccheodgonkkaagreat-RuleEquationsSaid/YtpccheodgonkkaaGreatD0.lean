import Derived.Test.YtpccheodgonkkaaGreatB0
set_option linter.unusedSimpArgs false
set_option linter.unusedVariables false
namespace Go.AE.S
open Go Go.AE
variable {τ:Tm} {σ:ah} {rd:Option Nat}
theorem Ry(x:Int):IntKind.u64.wrap x=x % 18446744073709551616:=by
 simp[IntKind.wrap,IntKind.bits,IntKind.signed]
theorem w64(n:Nat):IntKind.u64.wrap (n:Int)=((n % 18446744073709551616:Nat):Int):=by
 rw[Ry];simp
theorem aus(a b:Nat):IntKind.u64.wrap ((a:Int)+b)=(((a+b) % 18446744073709551616:Nat):Int):=by rw[←w64];simp
theorem aut(a b:Nat):IntKind.u64.wrap ((a:Int)*b)=(((a*b) % 18446744073709551616:Nat):Int):=by rw[←w64];simp
theorem auz(a b:Nat)(hb:b≤18446744073709551616):IntKind.u64.wrap ((a:Int)-b)=(((a+(18446744073709551616-b)) % 18446744073709551616:Nat):Int):=by
 rw[Ry];omega
theorem auu(b:Nat)(hb:b≤18446744073709551616):IntKind.u64.wrap (0-(b:Int))=(((18446744073709551616-b) % 18446744073709551616:Nat):Int):=by
 rw[Ry];omega
theorem apx{a b:Nat}(ha:a<18446744073709551616)(hb:b<18446744073709551616):cB .and (.p (.int .u64 (a:Int))) (.p (.int .u64 (b:Int)))=some (.p (.int .u64 ((a &&& b:Nat):Int))):=by
 rw[apR,u64_and ⟨by omega,by omega⟩ ⟨by omega,by omega⟩]
 rfl
theorem auv{a b:Nat}(ha:a<18446744073709551616)(hb:b<18446744073709551616):cB .or (.p (.int .u64 (a:Int))) (.p (.int .u64 (b:Int)))=some (.p (.int .u64 ((a |||b:Nat):Int))):=by
 rw[aww,u64_or ⟨by omega,by omega⟩ ⟨by omega,by omega⟩]
 rfl
theorem auA{a b:Nat}(ha:a<18446744073709551616)(hb:b<18446744073709551616):cB .xor (.p (.int .u64 (a:Int))) (.p (.int .u64 (b:Int)))=some (.p (.int .u64 ((a ^^^ b:Nat):Int))):=by
 rw[avu,u64_xor ⟨by omega,by omega⟩ ⟨by omega,by omega⟩]
 rfl
theorem agl{k:IntKind}{a n:Nat}(hn:n≤64):cB .shr (.p (.int .u64 (a:Int))) (.p (.int k (n:Int)))=some (.p (.int .u64 ((a / 2^n:Nat):Int))):=by
 rw[JV (by omega),show min (n:Int).toNat IntKind.u64.bits=n by(show min (n:Int).toNat 64=n);omega,Ih (by omega)]
 rfl
theorem agk{k:IntKind}{a n:Nat}(hn:n≤64):cB .shl (.p (.int .u64 (a:Int))) (.p (.int k (n:Int)))=some (.p (.int .u64 ((a*2^n % 18446744073709551616:Nat):Int))):=by
 rw[amd (by omega),show min (n:Int).toNat IntKind.u64.bits=n by(show min (n:Int).toNat 64=n);omega,←w64]
 simp
theorem auw{a b:Nat}(hb:b≠0)(ha:a<18446744073709551616):cB .quo (.p (.int .u64 (a:Int))) (.p (.int .u64 (b:Int)))=some (.p (.int .u64 ((a / b:Nat):Int))):=by
 rw[avr (by omega),Int.tdiv_eq_ediv_of_nonneg (by omega)]
 have h:((a:Int) / b)=((a / b:Nat):Int):=by simp
 rw[h,w64,acn (abr (ab4 a b) ha)]
theorem auy{a b:Nat}(hb:b≠0):cB .rem (.p (.int .u64 (a:Int))) (.p (.int .u64 (b:Int)))=some (.p (.int .u64 ((a % b:Nat):Int))):=by
 rw[avs (by omega),Int.tmod_eq_emod_of_nonneg (by omega)]
 simp
theorem anO{a:Nat}(ha:a<18446744073709551616):adD (.p (.int .u64 (a:Int)))=some (.p (.int .u64 ((18446744073709551615-a:Nat):Int))):=by
 have h1:RJ 18446744073709551615:=⟨by decide,by decide⟩
 have h2:RJ (a:Int):=⟨by omega,by omega⟩
 have h:adD (.p (.int .u64 (a:Int)))=some (.p (.int .u64 (IntKind.u64.wrap (BitVec.ofInt IntKind.u64.bits 18446744073709551615 ^^^ BitVec.ofInt IntKind.u64.bits a).toNat))):=rfl;rw[h,u64_xor h1 h2]
 have e:(18446744073709551615:Int).toNat ^^^ (a:Int).toNat=18446744073709551615-a:=by
  have:(18446744073709551615:Int).toNat=2^64-1:=rfl;rw[this,acm,Nat.xor_comm];apply Nat.eq_of_testBit_eq;intro i;have e2:18446744073709551615-a=2^64-(a+1):=by omega
  rw[Nat.testBit_xor,Nat.testBit_two_pow_sub_one,e2,Nat.testBit_two_pow_sub_succ (by omega)]
  by_cases hi:i<64
  ·simp[hi]
  ·have:a.testBit i=false:=Nat.testBit_lt_two_pow (WD (show a<2^64 by omega) (aa7 (by omega) (by omega)))
   simp[hi,this]
 rw[e]
def cw(w:Int):Nat:=(jl w).toNat
theorem yv(w:Int):1≤cw w∧cw w≤64:=by have:=H0 w;unfold cw;omega
theorem anf(w:Int):jl w=((cw w:Nat):Int):=by have:=H0 w;unfold cw;omega
theorem aqg{c:Nat}(h:1≤c∧c≤64):cw (c:Int)=c:=by unfold cw jl;omega
theorem TY{c:Nat}(h:c≤64):2^c≤18446744073709551616:=by
 have h1:2^c≤2^64:=aa7 (by omega) h
 exact h1
theorem aog{c:Nat}(h:c≤64):2^c ∣ 18446744073709551616:=by
 have h1:2^c ∣ 2^64:=Nat.pow_dvd_pow 2 h;exact h1
theorem YN{c:Nat}(h:c≤64)(x:Nat):x % 18446744073709551616 % 2^c=x % 2^c:=Nat.mod_mod_of_dvd x (aog h)
theorem adE{c:Nat}(h:c≤64)(x:Nat):x % 2^c<18446744073709551616:=WD (S3 _ (RD (by omega))) (TY h)
theorem mT(w:Int)(x:Nat)(hx:x<18446744073709551616):R P bP [.int .i64 w,.int .u64 (x:Int)]=some (.int .u64 ((x % 2^cw w:Nat):Int)):=by
 rw[Q8 w x ⟨by omega,by omega⟩]
 rfl
theorem IV(w:Int):R P gE [.int .i64 w]=some (.int .i64 ((cw w:Nat):Int)):=by rw[JE,anf]
theorem akN(w:Int):R P kq [.int .i64 w]=some (.int .u64 ((2^cw w-1:Nat):Int)):=Mw w
abbrev W(x:Nat):Prop:=x<18446744073709551616
def As(c a:Nat):Int:=if a % 2^c<2^(c-1)then((a % 2^c:Nat):Int)else((a % 2^c:Nat):Int)-((2^c:Nat):Int)
def B8(b:Bool):Nat:=if b=true then 1 else 0
def Z5(c a b:Nat):Nat:=if b % 2^c=0 then 2^c-1 else a % 2^c / (b % 2^c)
def Z8(c a b:Nat):Nat:=if b % 2^c=0 then a % 2^c else a % 2^c % (b % 2^c)
def aiq(c a b:Nat):Nat:=if c≤b % 2^c then 0 else(a % 2^c*2^(b % 2^c)) % 2^c
def IS(c a b:Nat):Nat:=if c≤b % 2^c then 0 else a % 2^c / 2^(b % 2^c)
def Ob(c a b:Nat):Nat:=if a % 2^c<2^(c-1)then IS c a b else if c≤b % 2^c then 2^c-1 else a % 2^c / 2^(b % 2^c)+(2^c-2^(c-b % 2^c))
def NH(ca cb a b:Nat):Nat:=(a % 2^ca*2^cb % 18446744073709551616) |||(b % 2^cb)
def Ig(low:Int)(c x:Nat):Nat:=if low<0 then 0 else(x / 2^min low.toNat 64) % 2^c
def agy(cf ct x:Nat):Nat:=(if x % 2^cf<2^(cf-1)then x % 2^cf else x % 2^cf+(18446744073709551616-2^cf)) % 2^ct
theorem aum(w:Int)(a:Nat)(ha:W a):R P sP [.int .i64 w,.int .u64 (a:Int)]=some (.int .u64 (((18446744073709551615-a) % 2^cw w:Nat):Int)):=by
 have h:=mT w (18446744073709551615-a) (by omega)
 (rw[aeK (aD rfl),zq];simp(disch:=omega)only[bR,↓aa,seval,-List.reduceReplicate,reduceCtorEq,ae,anO,cx,h])
theorem aul(w:Int)(a:Nat)(ha:W a):R P sN [.int .i64 w,.int .u64 (a:Int)]=some (.int .u64 (((18446744073709551616-a) % 2^cw w:Nat):Int)):=by
 have h:=mT w ((18446744073709551616-a) % 18446744073709551616) (by omega)
 have hn:=auu a (Nat.le_of_lt ha)
 (rw[aeJ (aD rfl),zp];simp(disch:=omega)only[bR,↓aa,seval,-List.reduceReplicate,reduceCtorEq,ae,hn,cx,h])
 rw[YN (yv w).2]
theorem auj(w:Int)(a b:Nat)(ha:W a)(hb:W b):R P sL [.int .i64 w,.int .u64 (a:Int),.int .u64 (b:Int)]=some (.int .u64 (((a &&& b) % 2^cw w:Nat):Int)):=by
 have h:=mT w (a &&& b) (abr Nat.and_le_left ha);have hx:=apx ha hb
 (rw[aeG (aD rfl),zm];simp(disch:=omega)only[bR,↓aa,seval,-List.reduceReplicate,reduceCtorEq,ae,hx,cx,h])
theorem av9(w:Int)(a b:Nat)(ha:W a)(hb:W b):R P wq [.int .i64 w,.int .u64 (a:Int),.int .u64 (b:Int)]=some (.int .u64 (((a |||b) % 2^cw w:Nat):Int)):=by
 have h:=mT w (a |||b) (Nat.or_lt_two_pow (n:=64) ha hb)
 have hx:=auv ha hb
 (rw[aic (aD rfl),BU];simp(disch:=omega)only[bR,↓aa,seval,-List.reduceReplicate,reduceCtorEq,ae,hx,cx,h])
theorem aur(w:Int)(a b:Nat)(ha:W a)(hb:W b):R P s9 [.int .i64 w,.int .u64 (a:Int),.int .u64 (b:Int)]=some (.int .u64 (((a ^^^ b) % 2^cw w:Nat):Int)):=by
 have h:=mT w (a ^^^ b) (Nat.xor_lt_two_pow (n:=64) ha hb);have hx:=auA ha hb
 (rw[aeP (aD rfl),zw];simp(disch:=omega)only[bR,↓aa,seval,-List.reduceReplicate,reduceCtorEq,ae,hx,cx,h])
theorem aui(w:Int)(a b:Nat)(ha:W a)(hb:W b):R P sH [.int .i64 w,.int .u64 (a:Int),.int .u64 (b:Int)]=some (.int .u64 (((a+b) % 2^cw w:Nat):Int)):=by
 have h:=mT w ((a+b) % 18446744073709551616) (S3 _ (by omega))
 have hx:=aus a b
 (rw[aeF (aD rfl),zl];simp(disch:=omega)only[bR,↓aa,seval,-List.reduceReplicate,reduceCtorEq,ae,hx,cx,h])
 rw[YN (yv w).2]
theorem aup(w:Int)(a b:Nat)(ha:W a)(hb:W b):R P s6 [.int .i64 w,.int .u64 (a:Int),.int .u64 (b:Int)]=some (.int .u64 (((a+(18446744073709551616-b)) % 2^cw w:Nat):Int)):=by
 have h:=mT w ((a+(18446744073709551616-b)) % 18446744073709551616) (S3 _ (by omega))
 have hx:=auz a b (Nat.le_of_lt hb)
 (rw[aeN (aD rfl),zt];simp(disch:=omega)only[bR,↓aa,seval,-List.reduceReplicate,reduceCtorEq,ae,hx,cx,h])
 rw[YN (yv w).2]
theorem auk(w:Int)(a b:Nat)(ha:W a)(hb:W b):R P sM [.int .i64 w,.int .u64 (a:Int),.int .u64 (b:Int)]=some (.int .u64 (((a*b) % 2^cw w:Nat):Int)):=by
 have h:=mT w ((a*b) % 18446744073709551616) (S3 _ (by omega))
 have hx:=aut a b
 (rw[aeI (aD rfl),zo];simp(disch:=omega)only[bR,↓aa,seval,-List.reduceReplicate,reduceCtorEq,ae,hx,cx,h])
 rw[YN (yv w).2]
theorem aqX(w:Int)(a b:Nat)(ha:W a)(hb:W b):R P qy [.int .i64 w,.int .u64 (a:Int),.int .u64 (b:Int)]=some (.int .u64 ((Z5 (cw w) a b:Nat):Int)):=by
 have h1:=mT w a ha;have h2:=mT w b hb;have h3:=akN w;have l1:=adE (yv w).2 a;unfold Z5;by_cases h0:b % 2^cw w=0
 ·rw[if_pos h0]
  have hz:(((b % 2^cw w:Nat):Int)=0)=True:=by simp only[eq_iff_iff,iff_true];omega
  (rw[Mm (aD rfl),tq];simp(disch:=omega)only[bR,↓aa,seval,-List.reduceReplicate,reduceCtorEq,ae,cx,h1,h2,hz,Fj,h3])
 ·rw[if_neg h0]
  have hz:(((b % 2^cw w:Nat):Int)=0)=False:=by simp only[eq_iff_iff,iff_false];omega
  have hq:=auw (a:=a % 2^cw w) (b:=b % 2^cw w) h0 l1
  (rw[Mm (aD rfl),tq];simp(disch:=omega)only[bR,↓aa,seval,-List.reduceReplicate,reduceCtorEq,ae,cx,h1,h2,hz,hq])
theorem aqY(w:Int)(a b:Nat)(ha:W a)(hb:W b):R P qz [.int .i64 w,.int .u64 (a:Int),.int .u64 (b:Int)]=some (.int .u64 ((Z8 (cw w) a b:Nat):Int)):=by
 have h1:=mT w a ha;have h2:=mT w b hb;unfold Z8;by_cases h0:b % 2^cw w=0
 ·rw[if_pos h0]
  have hz:(((b % 2^cw w:Nat):Int)=0)=True:=by simp only[eq_iff_iff,iff_true];omega
  (rw[Mn (aD rfl),tr];simp(disch:=omega)only[bR,↓aa,seval,-List.reduceReplicate,reduceCtorEq,ae,cx,h1,h2,hz])
 ·rw[if_neg h0]
  have hz:(((b % 2^cw w:Nat):Int)=0)=False:=by simp only[eq_iff_iff,iff_false];omega
  have hq:=auy (a:=a % 2^cw w) (b:=b % 2^cw w) h0
  (rw[Mn (aD rfl),tr];simp(disch:=omega)only[bR,↓aa,seval,-List.reduceReplicate,reduceCtorEq,ae,cx,h1,h2,hz,hq])
theorem akQ(b:Bool):R P nW [.bool b]=some (.int .u64 ((B8 b:Nat):Int)):=by
 cases b<;>(rw[Za (aD rfl),xy];simp(disch:=omega)only[bR,↓aa,seval,-List.reduceReplicate,reduceCtorEq,ae])<;>rfl
theorem auq(w:Int)(a b:Nat)(ha:W a)(hb:W b):R P s7 [.int .i64 w,.int .u64 (a:Int),.int .u64 (b:Int)]=some (.int .u64 ((B8 (decide (a % 2^cw w<b % 2^cw w)):Nat):Int)):=by
 have h1:=mT w a ha;have h2:=mT w b hb;have h3:=akQ (decide (a % 2^cw w<b % 2^cw w));have hl:((((a % 2^cw w:Nat):Int))<((b % 2^cw w:Nat):Int))=(a % 2^cw w<b % 2^cw w):=by simp only[eq_iff_iff];omega
 (rw[aeO (aD rfl),zu];simp(disch:=omega)only[bR,↓aa,seval,-List.reduceReplicate,reduceCtorEq,ae,cx,h1,h2,hl,Mh,h3])
theorem aqz(x:Nat)(hx:W x):IntKind.i64.wrap (x:Int)=if x<9223372036854775808 then(x:Int)else(x:Int)-18446744073709551616:=by
 simp[IntKind.wrap,IntKind.bits,IntKind.signed];split<;>split<;>omega
theorem alk{c:Nat}(h:1≤c):2^c=2*2^(c-1):=by
 obtain⟨d,rfl⟩:∃d,c=d+1:=⟨c-1,by omega⟩
 rw[Nat.pow_succ,Nat.add_sub_cancel];omega
theorem TZ{c:Nat}(h:c≤64):2^c*2^(64-c)=18446744073709551616:=by
 rw[←Nat.pow_add,show c+(64-c)=64 by omega]
theorem Pe(m:Int)(k:Nat):(m*((2^k:Nat):Int)).fdiv (2^k)=m:=by
 have hp:(0:Int)<2^k:=Int.pow_pos (by omega)
 have e:((2^k:Nat):Int)=2^k:=by simp
 rw[e,Int.mul_fdiv_cancel _ (by omega)]
theorem arT{c:Nat}(h:1≤c∧c≤64)(a:Nat):(IntKind.i64.wrap ((a*2^(64-c) % 18446744073709551616:Nat):Int)).fdiv (2^(64-c))=As c a:=by
 have hs:=TZ h.2;have hh:=alk h.1;have e:a*2^(64-c) % 18446744073709551616=a % 2^c*2^(64-c):=by rw[←hs,Nat.mul_mod_mul_right]
 rw[e,aqz _ (by rw[←e];exact S3 _ (by omega))]
 unfold As;have hm:a % 2^c<2^c:=S3 _ (RD (by omega))
 generalize a % 2^c=m at *;have hp:0<2^(64-c):=RD (by omega)
 have h2:2^(c-1)*2^(64-c)=9223372036854775808:=by
  rw[hh,Nat.mul_assoc]at hs;omega
 by_cases hlt:m<2^(c-1)
 ·have:m*2^(64-c)<9223372036854775808:=by rw[←h2];exact Nat.mul_lt_mul_of_pos_right hlt hp
  rw[if_pos this,if_pos hlt,aco,Pe]
 ·have:¬m*2^(64-c)<9223372036854775808:=by
   have:=ND (2^(64-c)) (Nat.le_of_not_lt hlt);omega
  rw[if_neg this,if_neg hlt]
  have e2:((m*2^(64-c):Nat):Int)-18446744073709551616=((m:Int)-((2^c:Nat):Int))*((2^(64-c):Nat):Int):=by
   rw[Int.sub_mul,←aco,←aco,hs];rfl
  rw[e2,Pe]
theorem IU(w:Int)(a:Nat)(ha:W a):R P fq [.int .i64 w,.int .u64 (a:Int)]=some (.int .i64 (As (cw w) a)):=by
 have hc:=yv w;have h1:=IV w;have hw:IntKind.i64.wrap (64-((cw w:Nat):Int))=((64-cw w:Nat):Int):=by rw[IntWalk.i64_in _ (by omega)];omega
 have hs:=agk (k:=.i64) (a:=a) (n:=64-cw w) (by omega)
 have hv:cB .shr (.p (.int .i64 (IntKind.i64.wrap ((a*2^(64-cw w) % 18446744073709551616:Nat):Int)))) (.p (.int .i64 ((64-cw w:Nat):Int)))=some (.p (.int .i64 (As (cw w) a))):=by
  rw[JV (by omega),show min ((64-cw w:Nat):Int).toNat IntKind.i64.bits=64-cw w by(show min ((64-cw w:Nat):Int).toNat 64=_);omega,arT hc]
 (rw[Sx (aD rfl),rP];simp(disch:=omega)only[bR,↓aa,seval,-List.reduceReplicate,reduceCtorEq,ae,gS,h1,hw,hs,hv])
theorem aow{c:Nat}(a:Nat):As c (a % 2^c)=As c a:=by unfold As;rw[Nat.mod_mod]
theorem auo(w:Int)(a b:Nat)(ha:W a)(hb:W b):R P sZ [.int .i64 w,.int .u64 (a:Int),.int .u64 (b:Int)]=some (.int .u64 ((B8 (decide (As (cw w) a<As (cw w) b)):Nat):Int)):=by
 have h1:=IU w a ha;have h2:=IU w b hb;have h3:=akQ (decide (As (cw w) a<As (cw w) b))
 (rw[aeM (aD rfl),zs];simp(disch:=omega)only[bR,↓aa,seval,-List.reduceReplicate,reduceCtorEq,ae,pC,h1,h2,Mh,h3])
theorem akM(wa wb:Int)(a b:Nat)(ha:W a)(hb:W b):R P mH [.int .i64 wa,.int .i64 wb,.int .u64 (a:Int),.int .u64 (b:Int)]=some (.int .u64 ((NH (cw wa) (cw wb) a b:Nat):Int)):=by
 have h1:=mT wa a ha;have h2:=mT wb b hb;have h3:=IV wb;have hs:=agk (k:=.i64) (a:=a % 2^cw wa) (n:=cw wb) (yv wb).2;have ho:=auv (a:=a % 2^cw wa*2^cw wb % 18446744073709551616) (b:=b % 2^cw wb) (S3 _ (by omega)) (adE (yv wb).2 b)
 (rw[Sw (aD rfl),rO];simp(disch:=omega)only[bR,↓aa,seval,-List.reduceReplicate,reduceCtorEq,ae,cx,h1,h2,gS,h3,hs,ho])
 rfl
theorem ahZ(low w:Int)(x:Nat)(hx:W x):R P kW [.int .i64 low,.int .i64 w,.int .u64 (x:Int)]=some (.int .u64 ((Ig low (cw w) x:Nat):Int)):=by
 unfold Ig;by_cases h0:low<0
 ·have hz:(low<0)=True:=by simp[h0]
  rw[if_pos h0]
  (rw[Fs (aD rfl),ni];simp(disch:=omega)only[bR,↓aa,seval,-List.reduceReplicate,reduceCtorEq,ae,hz])
 ·have hz:(low<0)=False:=by simp[h0]
  rw[if_neg h0]
  have hs:cB .shr (.p (.int .u64 (x:Int))) (.p (.int .i64 low))=some (.p (.int .u64 ((x / 2^min low.toNat 64:Nat):Int))):=by
   rw[JV (by omega),Ih (by omega)]
   rfl
  have h1:=mT w (x / 2^min low.toNat 64) (abr (ab4 _ _) hx)
  (rw[Fs (aD rfl),ni];simp(disch:=omega)only[bR,↓aa,seval,-List.reduceReplicate,reduceCtorEq,ae,hz,hs,cx,h1])
theorem aox{c:Nat}(h:1≤c∧c≤64)(a:Nat):IntKind.u64.wrap (As c a)=(((if a % 2^c<2^(c-1)then a % 2^c else a % 2^c+(18446744073709551616-2^c):Nat)):Int):=by
 have hm:a % 2^c<2^c:=S3 _ (RD (by omega))
 have hp:=TY h.2;rw[Ry];unfold As;split<;>omega
theorem aqW(wf wt:Int)(x:Nat)(hx:W x):R P qx [.int .i64 wf,.int .i64 wt,.int .u64 (x:Int)]=some (.int .u64 ((agy (cw wf) (cw wt) x:Nat):Int)):=by
 have h1:=IU wf x hx;have hu:=aox (yv wf) x;have hm:x % 2^cw wf<2^cw wf:=S3 _ (RD (by omega))
 have hp:=TY (yv wf).2;have h2:=mT wt (if x % 2^cw wf<2^(cw wf-1)then x % 2^cw wf else x % 2^cw wf+(18446744073709551616-2^cw wf)) (by split<;>omega)
 unfold agy
 (rw[Y9 (aD rfl),xw];simp(disch:=omega)only[bR,↓aa,seval,-List.reduceReplicate,reduceCtorEq,ae,pC,h1,hu,cx,h2])
theorem Bj{c n:Nat}(h:n≤c):2^(c-n)*2^n=2^c:=by rw[←Nat.pow_add,Nat.sub_add_cancel h]
theorem fdiv_pow{m:Int}{k:Nat}:m.fdiv (2^k)=m / ((2^k:Nat):Int):=by
 have hp:(0:Int)≤2^k:=Int.le_of_lt (Int.pow_pos (by omega))
 rw[Int.fdiv_eq_ediv_of_nonneg _ hp];simp
theorem anQ{c n m:Nat}(hc:c≤64)(hn:n<c)(hm:m<2^c):IntKind.u64.wrap (((m:Int)-((2^c:Nat):Int)).fdiv (2^n))=((m / 2^n+(18446744073709551616-2^(c-n)):Nat):Int):=by
 have hs:=Bj (Nat.le_of_lt hn);have hp:0<2^n:=RD (by omega)
 have ht:2^(c-n)≤18446744073709551616:=TY (by omega)
 have hr:m / 2^n<2^(c-n):=by
  rw[aci hp,hs];exact hm
 have e:((m:Int)-((2^c:Nat):Int)).fdiv (2^n)=((m / 2^n:Nat):Int)-((2^(c-n):Nat):Int):=by
  rw[fdiv_pow,←hs,aco,Int.sub_mul_ediv_right _ _ (by omega)]
  simp
 rw[e,Ry];generalize m / 2^n=r at *;generalize 2^(c-n)=t at *;omega
theorem anP{c n m:Nat}(hc:c≤64)(hn:n<c)(hm:m<2^c):(m / 2^n+(18446744073709551616-2^(c-n))) % 2^c=m / 2^n+(2^c-2^(c-n)):=by
 have hs:=Bj (Nat.le_of_lt hn);have hp:0<2^n:=RD (by omega)
 have hr:m / 2^n<2^(c-n):=by
  rw[aci hp,hs];exact hm
 have ht:2^(c-n)≤2^c:=aa7 (by omega) (by omega)
 have hq:=TZ hc;have hq0:0<2^(64-c):=RD (by omega)
 obtain⟨q,hqq⟩:∃q,2^(64-c)=q+1:=⟨2^(64-c)-1,by omega⟩
 rw[hqq,Nat.mul_succ]at hq;have e:m / 2^n+(18446744073709551616-2^(c-n))=m / 2^n+(2^c-2^(c-n))+2^c*q:=by omega
 rw[e,Nat.add_mul_mod_self_left,acn (by omega)]
theorem c64(w:Int):IntKind.u64.wrap ((cw w:Nat):Int)=((cw w:Nat):Int):=by have:=yv w;rw[w64,acn (by omega)]
theorem akR(w:Int)(a b:Nat)(ha:W a)(hb:W b):R P gF [.int .i64 0,.int .i64 w,.int .u64 (a:Int),.int .u64 (b:Int)]=some (.int .u64 ((aiq (cw w) a b:Nat):Int)):=by
 have h1:=mT w a ha;have h2:=mT w b hb;have h3:=IV w;have hc:=yv w;have h4:=c64 w;unfold aiq;by_cases hf:cw w≤b % 2^cw w
 ·have hg:((((cw w:Nat):Int))≤((b % 2^cw w:Nat):Int))=True:=by simp only[eq_iff_iff,iff_true];omega
  rw[if_pos hf]
  (rw[ml (aD rfl),fG];simp(disch:=omega)only[bR,↓aa,seval,-List.reduceReplicate,reduceCtorEq,ae,cx,h1,h2,gS,h3,h4,ge_iff_le,hg])
 ·have hg:((((cw w:Nat):Int))≤((b % 2^cw w:Nat):Int))=False:=by simp only[eq_iff_iff,iff_false];omega
  rw[if_neg hf];have hs:=agk (k:=.u64) (a:=a % 2^cw w) (n:=b % 2^cw w) (by omega)
  have h5:=mT w (a % 2^cw w*2^(b % 2^cw w) % 18446744073709551616) (S3 _ (by omega))
  (rw[ml (aD rfl),fG];simp(disch:=omega)only[bR,↓aa,seval,-List.reduceReplicate,reduceCtorEq,ae,cx,h1,h2,gS,h3,h4,ge_iff_le,hg,hs,h5])
  rw[YN hc.2]
theorem akS(w:Int)(a b:Nat)(ha:W a)(hb:W b):R P gF [.int .i64 1,.int .i64 w,.int .u64 (a:Int),.int .u64 (b:Int)]=some (.int .u64 ((IS (cw w) a b:Nat):Int)):=by
 have h1:=mT w a ha;have h2:=mT w b hb;have h3:=IV w;have hc:=yv w;have h4:=c64 w;unfold IS;by_cases hf:cw w≤b % 2^cw w
 ·have hg:((((cw w:Nat):Int))≤((b % 2^cw w:Nat):Int))=True:=by simp only[eq_iff_iff,iff_true];omega
  rw[if_pos hf]
  (rw[ml (aD rfl),fG];simp(disch:=omega)only[bR,↓aa,seval,-List.reduceReplicate,reduceCtorEq,ae,cx,h1,h2,gS,h3,h4,ge_iff_le,hg])
 ·have hg:((((cw w:Nat):Int))≤((b % 2^cw w:Nat):Int))=False:=by simp only[eq_iff_iff,iff_false];omega
  rw[if_neg hf];have hs:=agl (k:=.u64) (a:=a % 2^cw w) (n:=b % 2^cw w) (by omega)
  (rw[ml (aD rfl),fG];simp(disch:=omega)only[bR,↓aa,seval,-List.reduceReplicate,reduceCtorEq,ae,cx,h1,h2,gS,h3,h4,ge_iff_le,hg,hs])
theorem akT(w:Int)(a b:Nat)(ha:W a)(hb:W b):R P gF [.int .i64 2,.int .i64 w,.int .u64 (a:Int),.int .u64 (b:Int)]=some (.int .u64 ((Ob (cw w) a b:Nat):Int)):=by
 have h1:=mT w a ha;have h2:=mT w b hb;have h3:=IV w;have hc:=yv w;have h4:=c64 w;have hm:a % 2^cw w<2^cw w:=S3 _ (RD (by omega))
 have h6:=IU w (a % 2^cw w) (adE hc.2 a);have h7:=akN w;rw[aow]at h6;unfold Ob;by_cases hsg:a % 2^cw w<2^(cw w-1)
 ·have hz:(As (cw w) a<0)=False:=by unfold As;rw[if_pos hsg];simp only[eq_iff_iff,iff_false];omega
  rw[if_pos hsg];unfold IS;by_cases hf:cw w≤b % 2^cw w
  ·have hg:((((cw w:Nat):Int))≤((b % 2^cw w:Nat):Int))=True:=by simp only[eq_iff_iff,iff_true];omega
   rw[if_pos hf]
   (rw[ml (aD rfl),fG];simp(disch:=omega)only[bR,↓aa,seval,-List.reduceReplicate,reduceCtorEq,ae,cx,h1,h2,gS,h3,h4,ge_iff_le,hg,pC,h6,hz])
  ·have hg:((((cw w:Nat):Int))≤((b % 2^cw w:Nat):Int))=False:=by simp only[eq_iff_iff,iff_false];omega
   rw[if_neg hf];have hs:=agl (k:=.u64) (a:=a % 2^cw w) (n:=b % 2^cw w) (by omega)
   (rw[ml (aD rfl),fG];simp(disch:=omega)only[bR,↓aa,seval,-List.reduceReplicate,reduceCtorEq,ae,cx,h1,h2,gS,h3,h4,ge_iff_le,hg,pC,h6,hz,hs])
 ·have hz:(As (cw w) a<0)=True:=by unfold As;rw[if_neg hsg];simp only[eq_iff_iff,iff_true];omega
  rw[if_neg hsg];by_cases hf:cw w≤b % 2^cw w
  ·have hg:((((cw w:Nat):Int))≤((b % 2^cw w:Nat):Int))=True:=by simp only[eq_iff_iff,iff_true];omega
   rw[if_pos hf]
   (rw[ml (aD rfl),fG];simp(disch:=omega)only[bR,↓aa,seval,-List.reduceReplicate,reduceCtorEq,ae,cx,h1,h2,gS,h3,h4,ge_iff_le,hg,pC,h6,hz,Fj,h7])
  ·have hg:((((cw w:Nat):Int))≤((b % 2^cw w:Nat):Int))=False:=by simp only[eq_iff_iff,iff_false];omega
   rw[if_neg hf];have hn:b % 2^cw w<cw w:=by omega
   have hs:cB .shr (.p (.int .i64 (As (cw w) a))) (.p (.int .u64 ((b % 2^cw w:Nat):Int)))=some (.p (.int .i64 ((((a % 2^cw w:Nat):Int)-((2^cw w:Nat):Int)).fdiv (2^(b % 2^cw w))))):=by
    rw[JV (by omega),show min ((b % 2^cw w:Nat):Int).toNat IntKind.i64.bits=b % 2^cw w by(show min ((b % 2^cw w:Nat):Int).toNat 64=_);omega]
    unfold As;rw[if_neg hsg]
   have hw:=anQ hc.2 hn hm;have hk:=anP hc.2 hn hm
   have h5:=mT w (a % 2^cw w / 2^(b % 2^cw w)+(18446744073709551616-2^(cw w-b % 2^cw w))) (by
    have:a % 2^cw w / 2^(b % 2^cw w)<2^(cw w-b % 2^cw w):=by
     rw[aci (RD (by omega)),Bj (by omega)];exact hm
    have:=TY (c:=cw w-b % 2^cw w) (by omega)
    omega)
   rw[hk]at h5
   (rw[ml (aD rfl),fG];simp(disch:=omega)only[bR,↓aa,seval,-List.reduceReplicate,reduceCtorEq,ae,cx,h1,h2,gS,h3,h4,ge_iff_le,hg,pC,h6,hz,hs,hw,h5])
theorem aun(w:Int)(a b:Nat)(ha:W a)(hb:W b):R P sU [.int .i64 w,.int .u64 (a:Int),.int .u64 (b:Int)]=some (.int .u64 ((aiq (cw w) a b:Nat):Int)):=by
 have h:=akR w a b ha hb
 (rw[aeL (aD rfl),zr];simp(disch:=omega)only[bR,↓aa,seval,-List.reduceReplicate,reduceCtorEq,ae,Dd,h])
theorem aqV(w:Int)(a b:Nat)(ha:W a)(hb:W b):R P qw [.int .i64 w,.int .u64 (a:Int),.int .u64 (b:Int)]=some (.int .u64 ((IS (cw w) a b:Nat):Int)):=by
 have h:=akS w a b ha hb
 (rw[Y7 (aD rfl),xt];simp(disch:=omega)only[bR,↓aa,seval,-List.reduceReplicate,reduceCtorEq,ae,Dd,h])
theorem aqU(w:Int)(a b:Nat)(ha:W a)(hb:W b):R P qv [.int .i64 w,.int .u64 (a:Int),.int .u64 (b:Int)]=some (.int .u64 ((Ob (cw w) a b:Nat):Int)):=by
 have h:=akT w a b ha hb
 (rw[Y6 (aD rfl),xr];simp(disch:=omega)only[bR,↓aa,seval,-List.reduceReplicate,reduceCtorEq,ae,Dd,h])
end Go.AE.S
