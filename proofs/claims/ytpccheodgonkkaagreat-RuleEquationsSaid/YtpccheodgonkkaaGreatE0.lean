import Derived.Test.YtpccheodgonkkaaGreatC0
import Derived.Test.YtpccheodgonkkaaGreatD1
import Derived.Test.YtpccheodgonkkaaGreatD2
set_option maxHeartbeats 0
set_option linter.unusedSimpArgs false
set_option linter.unusedVariables false
namespace Go.AE.S
open Go Go.AE
def nD(a b:V2):Bool:=slt a.name b.name ||(a.name.toList == b.name.toList && decide (a.w<b.w))
theorem PN(a b:V2):VA (ay a) (ay b)=nD a b:=rfl
theorem Ba(a:V2):nD a a=false:=by simp[nD,gX]
theorem al4{a b:ByteArray}(h:a.toList=b.toList):a=b:=by
 rcases sz a b with h1|h1|h1
 ·unfold slt at h1;rw[h]at h1
  have:=gX b;unfold slt at this;rw[this]at h1;cases h1
 ·exact h1
 ·unfold slt at h1;rw[h]at h1
  have:=gX b;unfold slt at this;rw[this]at h1;cases h1
theorem zX(a b:V2):nD a b=true↔slt a.name b.name=true∨(a.name=b.name∧a.w<b.w):=by
 unfold nD;simp only[RC,vM,beq_iff_eq,decide_eq_true_eq];exact or_congr Iff.rfl (and_congr ⟨al4,fun h=>by rw[h]⟩ Iff.rfl)
theorem IT(a b:V2):nD a b=true∨a=b∨nD b a=true:=by
 rcases sz a.name b.name with h|h|h
 ·exact .inl ((zX a b).2 (.inl h))
 ·rcases Int.lt_trichotomy a.w b.w with h2|h2|h2
  ·exact .inl ((zX a b).2 (.inr ⟨h,h2⟩))
  ·exact .inr (.inl (by cases a;cases b;simp only at h h2;rw[h,h2]))
  ·exact .inr (.inr ((zX b a).2 (.inr ⟨h.symm,h2⟩)))
 ·exact .inr (.inr ((zX b a).2 (.inl h)))
theorem zY{a b c:V2}(h1:nD a b=true)(h2:nD b c=true):nD a c=true:=by
 rw[zX]at *;rcases h1 with h1|⟨e1,h1⟩<;>rcases h2 with h2|⟨e2,h2⟩
 ·exact .inl (uf h1 h2)
 ·exact .inl (e2 ▸ h1)
 ·exact .inl (e1 ▸ h2)
 ·exact .inr ⟨e1.trans e2,by omega⟩
theorem ahX{a b:V2}(h:nD a b=true):nD b a=false:=by
 cases hb:nD b a with
 |false=>rfl
 |true=>have:=zY h hb;rw[Ba]at this;cases this
theorem Tz{α:Type}(lt:α→α→Bool)(x:α):∀l:List α,(D0 lt x l).Perm (x::l)
 | []=>.refl _
 |y::r=>by
  unfold D0;split
  ·exact((Tz lt x r).cons y).trans (.swap x y r)
  ·exact .refl _
theorem C6{α:Type}(lt:α→α→Bool):∀l:List α,(dg lt l).Perm l
 | []=>.refl _
 |x::r=>(Tz lt x (dg lt r)).trans ((C6 lt r).cons x)
def HT(l:List V2):Prop:=l.Pairwise fun a b=>nD b a=false
theorem PA{x:V2}:∀{l:List V2},HT l→HT (D0 nD x l)
 | [],_=>by simp[D0,HT]
 |z::r,hs=>by
  have hs':=MJ.1 hs;unfold D0;split
  ·rename_i hzx
   refine MJ.2 ⟨fun b hb=>?_,PA hs'.2⟩
   rcases Ir.1 hb with rfl|hb
   ·exact ahX hzx
   ·exact hs'.1 b hb
  ·rename_i hzx
   refine MJ.2 ⟨fun b hb=>?_,hs⟩
   rcases pU.1 hb with rfl|hb
   ·simpa using hzx
   ·cases hbx:nD b x with
    |false=>rfl
    |true=>
     exfalso;have h1:=hs'.1 b hb;rcases IT b z with h|rfl|h
     ·rw[h]at h1;cases h1
     ·exact hzx hbx
     ·exact hzx (zY h hbx)
theorem Eu:∀l:List V2,HT (dg nD l)
 | []=>by simp[dg,HT]
 |x::r=>PA (Eu r)
theorem afm{l m:List V2}(hl:HT l)(hm:HT m)(hp:l.Perm m):l=m :=
 List.Perm.eq_of_pairwise (fun a b _ _ h1 h2=>by
  rcases IT a b with h|h|h
  ·rw[h2]at h;cases h
  ·exact h
  ·rw[h1]at h;cases h) hl hm hp
def AH(p:V2):List V2→List V2
 | []=>[]
 |a::r=>if a.name=p.name∧a.w=p.w then AH p r else a::AH a r
def rF:List V2→List V2
 | []=>[]
 |a::r=>a::AH a r
theorem Ru{a b:V2}(h1:a.name=b.name)(h2:a.w=b.w):a=b:=by cases a;cases b;simp only at h1 h2;rw[h1,h2]
theorem X8(a b:V2):qu.eqVW (ay a) (ay b)=true↔a=b:=by
 show(a.name.toList == b.name.toList && decide (a.w=b.w))=true↔_
 simp only[vM,beq_iff_eq,decide_eq_true_eq];exact⟨fun h=>Ru (al4 h.1) h.2,fun h=>by rw[h];exact⟨rfl,rfl⟩⟩
theorem R7(a:V2):∀r:List V2,qu ((a::r).map ay)=(a::AH a r).map ay:=by
 intro r
 induction r generalizing a with
 |nil=>rfl
 |cons b r ih=>
  have e:qu ((a::b::r).map ay)=if qu.eqVW (ay a) (ay b)then qu ((b::r).map ay)else ay a::qu ((b::r).map ay):=rfl
  rw[e,ih b];by_cases h:a=b
  ·subst h
   rw[if_pos ((X8 a a).2 rfl)];simp[AH]
  ·rw[if_neg (fun x=>h ((X8 a b).1 x))]
   have:¬(b.name=a.name∧b.w=a.w):=fun x=>h (Ru x.1.symm x.2.symm)
   simp[AH,this]
theorem H3:∀l:List V2,qu (l.map ay)=(rF l).map ay
 | []=>rfl
 |a::r=>R7 a r
variable {τ:Tm} {σ:ah} {rd:Option Nat}
def DW:List Term→Int
 | []=>0
 |t::r=>if ix t=0 then DW r else ix t
theorem Ye:∀(l:List Term) (i:Nat),aq (S:=Unit) (T:=Int) (fun _ _ t=>if ix t=0 then .inl ()else .inr (ix t)) i () l=if DW l=0 then .inl ()else .inr (DW l)
 | [],i=>rfl
 |t::l,i=>by
  unfold aq DW;by_cases h:ix t=0
  ·simp only[h,if_true]
   exact Ye l (i+1)
  ·simp only[h,if_false]
def aek(e:Int)(r:Ex×St):Prop:=r.1=.ret∧r.2.τ.get 2=.aA∧r.2.τ.get 3=.p (.int .i64 e)
abbrev adT(l:List Term)(i:Int):List (Nat×AV):=[(0,.p (.aO (l.map Term.row))),(13,.p (.aO (l.map Term.row))),(14,.p (.int .i64 l.length)),(15,.p (.int .i64 i))]
theorem aki(l:List Term)(ht:∀t∈l,iD t∧t.count≤1000000)(hl:l.length≤1000):if DW l=0 then al P sd (adT l 0) [] 68 none=back P [0,13,14,15] fF 0 (exec P fF ⟨tm (adT l l.length),[],68,none⟩)else ∃r,al P sd (adT l 0) [] 68 none=some r∧aek (DW l) r:=by
 have h:=cE (P:=P) (nt:=68) (lv:=[0,13,14,15]) (b:=fF) (rd:=none) (as:=l) (fun k (_:Unit)=>adT l k) (fun _=>[]) (fun _ _ t=>if ix t=0 then .inl ()else .inr (ix t)) aek (fun _ _=>True)
  (fun i t s hv hi hs=>by
   refine⟨fun _ _=>trivial,?_⟩
   have hlt:((i:Int)<l.length)=True:=by simpa using hi
   have hx:=fun σ=>aH (k:=.i64) (es:=5) (σ:=σ) (aw (f:=Term.row) hv) t.az
   obtain⟨h1,h2⟩:=ht t (mR hv);have hk:=JJ t h1 h2;rcases cY (ix t=0)with c|c
   ·simp only[fF,of_eq_true c,if_true]
    rw[of_eq_true c]at hk;simp(disch:=omega)only[aB,↓aa,seval,-List.reduceReplicate,reduceCtorEq,ae,hlt,hx,aR,mj,hk,adT,aek]
   ·simp only[fF,c,if_false]
    simp(disch:=omega)only[aB,↓aa,seval,-List.reduceReplicate,reduceCtorEq,ae,hlt,hx,aR,mj,hk,c,adT,aek]) (fun i s=>rfl) () trivial
 rw[Ye]at h;by_cases hb:DW l=0
 ·rw[if_pos hb]at h;rw[if_pos hb];exact h.2
 ·rw[if_neg hb]at h;rw[if_neg hb];exact h
def rD(l:List Term):List V2:=l.flatMap nP
abbrev sX(s:Bool×List V2):ah:=[.pv (if s.1=true then 2 else 0) (s.2.map ay) false]
abbrev ajC(l:List Term)(s:Bool×List V2)(i:Int):List (Nat×AV):=[(7,.sl 0 s.2.length),(25,.p (.aO (l.map Term.row))),(26,.p (.int .i64 l.length)),(27,.p (.int .i64 i))]
theorem Pj:∀(l:List Term) (i:Nat) (s:Bool×List V2),aq (T:=Empty) (fun _ (s:Bool×List V2) t=>.inl (true,s.2++nP t)) i s l=.inl (if l=[]then s else(true,s.2++rD l))
 | [],i,s=>rfl
 |t::l,i,s=>by
  rw[aq]
  simp only
  rw[Pj l (i+1)];cases l with
  |nil=>simp[rD]
  |cons b l=>simp[rD]
theorem asq(l:List V2):wide 2 (l.map ay)=true:=by
 simp[wide,ay]
theorem akn(l:List Term)(ht:∀t∈l,t.count≤1000000)(hl:l.length≤1000):al P sk (ajC l (false,[]) 0) (sX (false,[])) 68 none=back P [7,25,26,27] hJ 1 (exec P hJ ⟨tm (ajC l (!l.isEmpty,rD l) l.length),sX (!l.isEmpty,rD l),68,none⟩):=by
 obtain⟨_,h⟩:=fY (P:=P) (nt:=68) (lv:=[7,25,26,27]) (b:=hJ) (rd:=none) (as:=l) (fun i (s:Bool×List V2)=>ajC l s i) sX (fun _ s t=>(true,s.2++nP t)) (fun i s=>s.2.length≤i*1000000∧(s.1=false→s.2=[]))
  (fun i t s hv hi hs=>by
   obtain⟨f,s⟩:=s;obtain⟨h1,h2⟩:=hs
   simp only at h1 h2
   have hlt:((i:Int)<l.length)=True:=by simpa using hi
   have hx:=fun σ=>aH (k:=.i64) (es:=5) (σ:=σ) (aw (f:=Term.row) hv) t.az
   have hc:=ht t (mR hv);have hV:=MC t hc;have hn:=Rv t;have hsp:=fun σ=>Rj (σ:=σ) (asq (nP t))
   have hi2:i*1000000≤1000*1000000:=ND _ (by omega)
   have hap:=dP (σ:=sX (f,s)) (b:=0) (n:=s.length) (e:=if f=true then 2 else 0) (es:=2) (bytes:=24) (rows:=s.map ay) (new:=(nP t).map ay) rfl (by simp) (by cases f with|true=>exact .inl rfl|false=>exact .inr ⟨rfl,by rw[h2 rfl];rfl⟩) (by rw[aR];omega)
   simp only[sX]at hap;refine⟨⟨by simp only[jS];omega,fun h=>by cases h⟩,?_⟩
   simp only[hJ];generalize nP t=V at *;simp(disch:=omega)only[aB,↓aa,seval,-List.reduceReplicate,reduceCtorEq,ae,hlt,hx,aR,xX,hV,hsp,hap,CR,jS,ajC,sX]) (fun i s=>rfl) (false,[]) ⟨by simp,fun _=>rfl⟩ _ (Pj l 0 (false,[]))
 cases l with
 |nil=>exact h
 |cons a l=>exact h
theorem at2{K:List V2}{v:V2}{m i:Nat}{fr:Bool}(h:K[i]?=some v)(hn:K.length=m):RF m i 0 2 true (some (.pv 2 (K.map ay) fr))=some (.p (.agg (ay v))):=by
 have hi:=(gA.1 h).1;have h2:=(gA.1 h).2;simp[RF,hn,h2,h];rfl
theorem at1{K:List V2}{v:V2}{m i:Nat}{fr:Bool}(h:K[i]?=some v)(hn:K.length=m):RF m i 0 1 false (some (.pv 2 (K.map ay) fr))=some (.p (.str v.name)):=by
 have hi:=(gA.1 h).1;have h2:=(gA.1 h).2;simp[RF,hn,h2,h];rfl
def R5(K:List V2)(i:Nat)(v:V2):Bool:=decide (0<i) && (match K[i-1]? with|some u=>decide (u.name=v.name)|none=>false)
theorem Ha{n:Nat}:AE.Obj.below n .gone=true:=rfl
def H6(K:List V2):List V2→Nat→Bool
 | [],_=>false
 |v::r,i=>R5 K i v ||H6 K r (i+1)
def js:List V2→Int
 | []=>0
 |v::r=>v.w+js r
def ZX(K:List V2)(i:Nat)(s:Int)(v:V2):Int ⊕ Unit:=if R5 K i v=true then .inr ()else .inl (s+v.w)
theorem Pr(K:List V2):∀(l:List V2) (i:Nat) (s:Int),aq (ZX K) i s l=if H6 K l i=true then .inr ()else .inl (s+js l)
 | [],i,s=>by simp[aq,H6,js]
 |v::l,i,s=>by
  rw[aq];unfold ZX H6;by_cases h:R5 K i v=true
  ·rw[if_pos h,h];simp
  ·rw[if_neg h]
   have h':R5 K i v=false:=by simpa using h
   rw[h'];simp only[J5];have:=Pr K l (i+1) (s+v.w);unfold ZX at this;rw[this,js,Int.add_assoc]
abbrev X4(K:List V2)(s i:Int):List (Nat×AV):=[(7,.sl 1 K.length),(10,.p (.int .i64 s)),(40,.sl 1 K.length),(41,.p (.int .i64 K.length)),(42,.p (.int .i64 i))]
abbrev sY(e:Nat)(K:List V2):ah:=[.gone,.pv e (K.map ay) false]
theorem ai8{o o1:Obj}:uX 2 (aX [.p (.str (bs [])),.p (.int .i64 0)] [o,o1])=some (.ptr 2 1 0 0,[o,o1,.pv 2 [[.str (bs []),.int .i64 0]] false]):=rfl
theorem akp(e:Nat)(K:List V2)(he:e=2∨K=[])(hw:∀v∈K,uo v)(hl:K.length≤1000000000):if H6 K K 0=true then ∃r,al P sn (X4 K 0 0) (sY e K) 68 none=some r∧aek 12 r else al P sn (X4 K 0 0) (sY e K) 68 none=back P [7,10,40,41,42] hU 2 (exec P hU ⟨tm (X4 K (js K) K.length),sY e K,68,none⟩):=by
 have h:=cE (P:=P) (nt:=68) (lv:=[7,10,40,41,42]) (b:=hU) (rd:=none) (as:=K) (fun i (s:Int)=>X4 K s i) (fun _=>sY e K) (ZX K) (fun(_:Unit)=>aek 12) (fun i s=>0≤s∧s≤i*64)
  (fun i v s hv hi hs=>by
   obtain⟨s0,s1⟩:=hs
   have he2:e=2:=by
    rcases he with h|h
    ·exact h
    ·rw[h]at hv;cases hv
   subst he2;have hok:=hw v (mR hv);unfold uo at hok;have hlt:((i:Int)<K.length)=True:=by simpa using hi
   have hia:gj (sY 2 K) 2 (.sl 1 K.length) (.p (.int .i64 i))=some (.ptr 1 K.length i 0):=af6 rfl (by simp) hi
   have hld:=at2 (m:=K.length) (fr:=false) hv rfl;have hwr:IntKind.i64.wrap (s+v.w)=s+v.w:=IntWalk.i64_in _ (by omega)
   unfold ZX;refine⟨fun s' he=>?_,?_⟩
   ·by_cases hc:R5 K i v=true
    ·rw[if_pos hc]at he;cases he
    ·rw[if_neg hc]at he
     cases he;exact⟨by omega,by omega⟩
   cases i with
   |zero=>
    have h0:((0:Int) > 0)=False:=by simp
    have hz:R5 K 0 v=false:=rfl;have h01:IntKind.i64.wrap 1=1:=IntWalk.i64_in _ (by omega)
    simp only[hU,hz,lG,if_false];simp only[sY,Int.natCast_zero]at hia hlt;simp(disch:=omega)only[aB,↓aa,seval,-List.reduceReplicate,reduceCtorEq,ae,hlt,hia,hld,ai8,al0,YE,YF,hwr,h0,h01,Ha,X4,sY]
   |succ j=>
    have hj:j<K.length:=by omega
    have Wz:(((j+1:Nat):Int) > 0)=True:=by simp only[eq_iff_iff,iff_true];omega
    have hjm:IntKind.i64.wrap (((j+1:Nat):Int)-1)=(j:Int):=by rw[IntWalk.i64_in _ (by omega)];omega
    obtain⟨u,hu⟩:∃u,K[j]?=some u:=⟨_,o8 hj⟩;have hia2:=fun(o:Obj)=>(af6 (σ:=[.gone,.pv 2 (K.map ay) false,o]) (b:=1) (m:=K.length) (es:=2) (j:=j) (fr:=false) rfl (by simp) hj:gj _ 2 (.sl 1 K.length) (.p (.int .i64 j))=_)
    have hls:=at1 (m:=K.length) (fr:=false) hu rfl
    have hz:R5 K (j+1) v=decide (u.name=v.name):=by
     unfold R5;rw[show j+1-1=j from rfl,hu];simp
    simp only[sY]at hia;simp only[hU,hz];rcases cY (u.name=v.name)with hn|hn
    ·simp only[hn,decide_true,if_true]
     rw[of_eq_true hn]at hls;simp(disch:=omega)only[aB,↓aa,seval,-List.reduceReplicate,reduceCtorEq,ae,hlt,hia,hld,ai8,al0,YE,YF,Wz,hjm,hia2,hls,Ha,X4,sY,aek]
    ·simp only[hn,decide_false,lG,if_false]
     simp(disch:=omega)only[aB,↓aa,seval,-List.reduceReplicate,reduceCtorEq,ae,hlt,hia,hld,ai8,al0,YE,YF,hwr,Wz,hjm,hia2,hls,hn,Ha,X4,sY]) (fun i s=>rfl) 0 ⟨by omega,by omega⟩
 rw[Pr]at h;cases hb:H6 K K 0 with
 |true=>rw[hb,if_pos rfl]at h;rw[if_pos rfl];exact h
 |false=>rw[hb,if_neg (by simp),Int.zero_add]at h;rw[if_neg (by simp)];exact h.2
theorem avv{u:Term}(h:vh u=0)(h1:u.op=1):1≤u.w∧u.w≤64:=by
 have hn:=agm h;refine⟨hn.w,?_⟩;have hw:=hn.wd;have ha:=hn.ar.1;rw[h1]at hw ha;have hz:arity 1=0:=by decide
 unfold bM at hw;split at hw
 ·have:=congrArg Prod.snd hw;simp at this
 ·split at hw
  ·have:=congrArg Prod.snd hw;simp at this
  ·have hw2:rG 1 u.w u.v=(u.w,0):=hw
   unfold rG at hw2;split at hw2
   ·have:=congrArg Prod.snd hw2;simp at this
   ·omega
theorem amf{t:Term}(h:ix t=0):∀v∈nP t,uo v:=by
 intro v hv;obtain⟨u,hu,h1,rfl⟩:=agH hv;exact avv (((ON t).1 h).2.2.1 u hu) h1
theorem FP:∀{l:List Term},DW l=0→∀t∈l,ix t=0
 | [],_,t,ht=>by simp at ht
 |a::l,h,t,ht=>by
  unfold DW at h;by_cases h1:ix a=0
  ·rw[if_pos h1]at h
   rcases pU.1 ht with rfl|ht
   ·exact h1
   ·exact FP h t ht
  ·rw[if_neg h1]at h;exact absurd h h1
theorem Q4:∀(l:List V2) (p v:V2),(v∈AH p l→v∈l)∧(v∈l→v∈AH p l∨v=p)
 | [],p,v=>by simp[AH]
 |a::r,p,v=>by
  unfold AH;split
  ·rename_i h
   have e:a=p:=Ru h.1 h.2;obtain⟨i1,i2⟩:=Q4 r p v;refine⟨fun hm=>abp _ (i1 hm),fun hm=>?_⟩
   rcases pU.1 hm with rfl|hm
   ·exact .inr e
   ·exact i2 hm
  ·obtain⟨i1,i2⟩:=Q4 r a v
   refine⟨fun hm=>?_,fun hm=>?_⟩
   ·rcases pU.1 hm with rfl|hm
    ·simp
    ·exact abp _ (i1 hm)
   ·rcases pU.1 hm with rfl|hm
    ·exact .inl (by simp)
    ·rcases i2 hm with h2|rfl
     ·exact .inl (abp _ h2)
     ·exact .inl (by simp)
theorem Tf{l:List V2}{v:V2}:v∈rF l↔v∈l:=by
 cases l with
 |nil=>rfl
 |cons a r=>
  unfold rF;obtain⟨i1,i2⟩:=Q4 r a v;refine⟨fun hm=>?_,fun hm=>?_⟩
  ·rcases pU.1 hm with rfl|hm
   ·simp
   ·exact abp _ (i1 hm)
  ·rcases pU.1 hm with rfl|hm
   ·simp
   ·rcases i2 hm with h2|rfl
    ·exact abp _ h2
    ·simp
theorem ail(l:List V2):∀p,(AH p l).length≤l.length:=by
 induction l with
 |nil=>intro p;simp[AH]
 |cons a r ih=>intro p;unfold AH;split;exact Nat.le_succ_of_le (ih p);simp[ih a]
theorem adC(l:List V2):(rF l).length≤l.length:=by cases l with|nil=>simp[rF]|cons a r=>simp[rF,ail]
def cN(l:List Term):List V2:=rF (dg nD (rD l))
theorem CG{l:List Term}{v:V2}:v∈cN l↔∃t∈l,v∈nP t:=by
 unfold cN rD;rw[Tf,tQ,MK]
theorem acu{l:List Term}(h:DW l=0):∀v∈cN l,uo v:=by
 intro v hv;obtain⟨t,ht,hv⟩:=CG.1 hv;exact amf (FP h t ht) v hv
theorem J9:∀{l:List Term} (n:Nat),(∀t∈l,t.count≤n)→(rD l).length≤l.length*n
 | [],n,_=>by simp[rD]
 |t::l,n,h=>by
  have h1:=J9 (l:=l) n (fun a ha=>h a (abp _ ha))
  have h2:=abB (Rv t) (h t (by simp))
  show(nP t++rD l).length≤(l.length+1)*n
  rw[jS,acg];omega
theorem aiH{l:List Term}(n:Nat)(h:∀t∈l,t.count≤n):(cN l).length≤l.length*n :=
 abB (adC _) (by rw[(C6 nD (rD l)).length_eq];exact J9 n h)
theorem am1(f:Bool)(l:List V2)(hf:f=false→l=[])(hl:l.length≤1000000000):l5 P bf [.sl 0 l.length,.p (.fn cT [])] (sX (f,l))=some (.p (.jY []),sX (f,dg nD l)):=by
 rw[ly]
 have h1:xW 2 dR okV YM [.sl 0 l.length,.p (.fn cT [])] (sX (f,l))=none:=by
  have hne:¬cT=dR:=by decide
  simp only[xW,if_neg hne]
 have h2:Cu 2 cT okV VA [.sl 0 l.length,.p (.fn cT [])] (sX (f,l))=some (.p (.jY []),sX (f,dg nD l)):=by
  simp only[Cu,sX,if_true,S2];rw[if_pos ⟨by simp,by omega,by cases f with|true=>exact .inr rfl|false=>exact .inl (by rw[hf rfl];rfl),Um l⟩]
  simp only[abf,wA PN]
 unfold zf;rw[h1,h2];rfl
theorem agX(f:Bool)(l:List V2)(hf:f=false→l=[])(hl:l.length≤1000000000):l5 P cD [.sl 0 l.length] (sX (f,l))=some (.sl 1 (rF l).length,[.gone,.pv (if f=true then 2 else 0) ((rF l).map ay) false]):=by
 rw[vq];simp only[xU,sX,S2];rw[if_pos ⟨by simp,by omega,by cases f with|true=>exact .inr rfl|false=>exact .inl (by rw[hf rfl];rfl),Um l⟩]
 simp only[H3,aR,lZ,nz,abf,F9,y8]
def yD(l:List Term):Int:=if ¬DW l=0 then DW l else if H6 (cN l) (cN l) 0=true then 12 else if 16<js (cN l)then 7 else 0
def DR(l:List Term):List V2:=if yD l=0 then cN l else[]
theorem Q9(l:List Term)(ht:∀t∈l,iD t∧t.count≤1000000)(hl:l.length≤1000):R P kX [.aO (l.map Term.row)]=some (.jY [.aO ((DR l).map ay),.int .i64 (yD l)]):=by
 have h0:=aki l ht hl;have h1:=akn l (fun t h=>(ht t h).2) hl
 have hlen:=J9 (l:=l) 1000000 (fun t h=>(ht t h).2)
 have hl2:l.length*1000000≤1000*1000000:=ND _ hl;have hK:=aiH (l:=l) 1000000 (fun t h=>(ht t h).2)
 have hf:(!l.isEmpty)=false→rD l=[]:=fun h=>by
  cases l with
  |nil=>rfl
  |cons a l=>cases h
 have hs:=am1 (!l.isEmpty) (rD l) hf (by omega)
 have hil:(dg nD (rD l)).length=(rD l).length:=(C6 nD (rD l)).length_eq;have hc:=agX (!l.isEmpty) (dg nD (rD l)) (fun h=>by rw[hf h];rfl) (by rw[hil];omega)
 rw[hil]at hc;simp only[adT]at h0;simp only[ajC]at h1;rcases cY (DW l=0)with c0|c0
 rotate_left
 ·rw[if_neg (of_eq_false c0)]at h0
  have c0':=of_eq_false c0;have hE:yD l=DW l:=by unfold yD;rw[if_pos c0']
  have hR:DR l=[]:=by unfold DR;rw[hE,if_neg c0']
  rw[hE,hR];obtain⟨⟨e',τ',σ',nt',rd'⟩,g1,g2,g3,g4⟩:=h0
  simp only at g2 g3 g4
  subst g2
  (rw[vu (aD rfl),jf];simp(disch:=omega)only[aB,↓aa,seval,-List.reduceReplicate,reduceCtorEq,ae,ss,g1,g3,g4,aR])
 ·have c0':=of_eq_true c0
  rw[if_pos c0']at h0;have hw:=acu c0'
  have he:(if(!l.isEmpty)=true then 2 else 0)=2∨cN l=[]:=by
   cases l with
   |nil=>exact .inr rfl
   |cons a l=>exact .inl rfl
  have h2:=akp (if(!l.isEmpty)=true then 2 else 0) (cN l) he hw (by omega)
  have hE1:yD l=if H6 (cN l) (cN l) 0=true then 12 else if 16<js (cN l)then 7 else 0:=by unfold yD;rw[if_neg (by simpa using c0')]
  have hvx:rF (dg nD (rD l))=cN l:=rfl;rw[hvx]at hc;simp only[X4]at h2;have h1':al P sk [(7,.sl 0 0),(25,.p (.aO (l.map Term.row))),(26,.p (.int .i64 l.length)),(27,.p (.int .i64 0))] [.pv 0 [] false] 68 none=_:=h1;generalize rD l=A at *;have hln:∀(e:Nat) (K:List V2),PI [.gone,.pv e (K.map ay) false] (.sl 1 K.length)=some (.p (.int .i64 (K.length:Int))):=fun e K=>by simp[PI,bI,afi,AE.Obj.len]
  simp only[sY]at h2;cases hd:H6 (cN l) (cN l) 0 with
  |true=>
   have hE:yD l=12:=by rw[hE1,hd,if_pos rfl]
   have hR:DR l=[]:=by unfold DR;rw[hE,if_neg (by decide)]
   rw[hd,if_pos rfl]at h2;rw[hE,hR];obtain⟨⟨e',τ',σ',nt',rd'⟩,g1,g2,g3,g4⟩:=h2
   simp only at g2 g3 g4
   subst g2;generalize cN l=K at *
   (rw[vu (aD rfl),jf];simp(disch:=omega)only[aB,↓aa,seval,-List.reduceReplicate,reduceCtorEq,ae,ss,h0,fF,lH,aR,yj,h1',hJ,hs,hc,hln,yk,g1,g3,g4])
  |false=>
   rw[hd,if_neg (by simp)]at h2
   rcases cY (16<js (cN l))with c3|c3
   ·have hE:yD l=7:=by rw[hE1,hd,if_neg (by simp),if_pos (of_eq_true c3)]
    have hR:DR l=[]:=by unfold DR;rw[hE,if_neg (by decide)]
    rw[hE,hR];generalize cN l=K at *
    (rw[vu (aD rfl),jf];simp(disch:=omega)only[aB,↓aa,seval,-List.reduceReplicate,reduceCtorEq,ae,ss,h0,fF,lH,aR,yj,h1',hJ,hs,hc,hln,yk,h2,hU,c3])
   ·have hE:yD l=0:=by rw[hE1,hd,if_neg (by simp),if_neg (of_eq_false c3)]
    have hR:DR l=cN l:=by unfold DR;rw[hE,if_pos rfl]
    rw[hE,hR];generalize cN l=K at *;have hpu:∀(d:Nat) (e:Nat),aG [.gone,.pv e (K.map ay) false] (d+1) (.sl 1 K.length)=some (.aO (K.map ay)):=fun d e=>by simp[aG]
    (rw[vu (aD rfl),jf];simp(disch:=omega)only[aB,↓aa,seval,-List.reduceReplicate,reduceCtorEq,ae,ss,h0,fF,lH,aR,yj,h1',hJ,hs,hc,hln,yk,h2,hU,c3,hpu])
def WQ(vs:List V2)(k:Nat):List AV:=[.p (.int .i64 (k:Int)),.p (.fn bV [.ptr [.int .i64 (k:Int)] 0,.ptr [.aO (vs.map ay)] 0])]
def RN(l:Nat)(vs:List V2)(s:ah)(k:Nat):ah ⊕ ah:=match round P l (WQ vs k) s with
 |some (.p (.bool true),s')=>.inl s'
 |some (.p (.bool false),s')=>.inr s'
 |_=>.inl s
theorem Yd(l:Nat)(vs:List V2):∀(ks:List Nat) (i:Nat) (s:ah) (b:Bool) (s':ah),rounds P l (ks.map (WQ vs)) s=some (b,s')→aq (fun _ s k=>RN l vs s k) i s ks=if b=true then .inl s' else .inr s'
 | [],i,s,b,s',h=>by
  simp only[B0,rounds,bN,rI]at h;obtain⟨rfl,rfl⟩:=h;rfl
 |k::ks,i,s,b,s',h=>by
  rw[rK]at h;obtain⟨c,σ1,h1,h2,h3,h4⟩:=Fz h;rw[aq];cases c with
  |true=>
   have:RN l vs s k=.inl σ1:=by unfold RN;rw[h1]
   rw[this];exact Yd l vs ks (i+1) σ1 b s' (h3 rfl)
  |false=>
   have:RN l vs s k=.inr σ1:=by unfold RN;rw[h1]
   obtain⟨rfl,rfl⟩:=h4 rfl;rw[this];rfl
abbrev aqh(l:Nat)(vs:List V2)(m:Nat)(k:Int):List (Nat×AV):=[(0,.yield l),(2,.p (.ptr [.aO (vs.map ay)] 0)),(7,.p (.int .i64 (m:Int))),(8,.p (.int .i64 k))]
def apA(s:ah)(r:Ex×St):Prop:=r.1=.ret∧r.2.σ=s
theorem agY(l:Nat)(vs:List V2)(n:Nat)(hn:n≤16)(σ σ':ah)(b:Bool)(h:rounds P l ((List.range (2^n)).map (WQ vs)) σ=some (b,σ')) :
  call P ew [.yield l,.p (.ptr [.int .i64 (n:Int)] 0),.p (.ptr [.aO (vs.map ay)] 0)] σ=some (.p (.jY []),σ'):=by
 have hp:(2:Nat)^n≤65536:=aa7 (show 0<2 by omega) hn
 have hfo:=Yd l vs (List.range (2^n)) 0 σ b σ' h
 have hlp:=cE (P:=P) (nt:=18) (lv:=[0,2,7,8]) (b:=fm) (rd:=none) (as:=List.range (2^n)) (fun i (_:ah)=>aqh l vs (2^n) i) (fun s=>s) (fun _ s k=>RN l vs s k) apA (fun i s=>s.length=σ.length∧∃b s',rounds P l (((List.range (2^n)).drop i).map (WQ vs)) s=some (b,s'))
  (fun i k s hk hi hs=>by
   obtain⟨hsl,b2,s2,hs⟩:=hs;rw[ab3]at hi
   have hki:k=i:=by
    rw[aby hi]at hk;exact(abJ hk).symm
   subst hki;have hlt:((k:Int)<((2^n:Nat):Int))=True:=by simp only[eq_iff_iff,iff_true];exact Int.ofNat_lt.2 hi
   have hd:(List.range (2^n)).drop k=k::(List.range (2^n)).drop (k+1):=by
    rw[abk (by simpa using hi)]
    simp
   rw[hd,rK]at hs;obtain⟨c,σ1,h1,h2,h3,h4⟩:=Fz hs;have h1':tH P (.yield l) (WQ vs k) s=some (.p (.bool c),σ1):=by rw[tH.eq_def];exact h1
   have gc2:∀v,gc s.length v σ1=σ1:=fun v=>eU (by omega)
   have hwr:IntKind.i64.wrap ((k:Int)+1)=((k+1:Nat):Int):=IntWalk.i64_in _ (by omega)
   simp only[WQ]at h1';cases c with
   |true=>
    have hf:RN l vs s k=.inl σ1:=by unfold RN;rw[h1]
    refine⟨fun s' he=>?_,?_⟩
    ·rw[hf]at he
     cases he;exact⟨by omega,_,_,h3 rfl⟩
    ·rw[hf]
     simp only[fm];simp(disch:=omega)only[aB,↓aa,seval,-List.reduceReplicate,reduceCtorEq,ae,hlt,Gh,h1',gc2,hwr,aqh]
   |false=>
    have hf:RN l vs s k=.inr σ1:=by unfold RN;rw[h1]
    refine⟨fun s' he=>?_,?_⟩
    ·rw[hf]at he
     cases he
    ·rw[hf]
     simp only[fm];simp(disch:=omega)only[aB,↓aa,seval,-List.reduceReplicate,reduceCtorEq,ae,hlt,Gh,h1',gc2,hwr,aqh,apA]) (fun i s=>rfl) σ ⟨rfl,b,σ',by rw[List.drop_zero];exact h⟩
 rw[hfo]at hlp;have hl3:=wQ _ _ _ _ h;have gc3:∀vs,gc σ.length vs σ'=σ':=fun vs=>eU (by omega)
 have hsh:=apJ (b:=n) hn;cases b with
 |true=>
  rw[if_pos rfl]at hlp;obtain⟨_,hlp⟩:=hlp;rw[ab3]at hlp;have h':al P iW [(0,.yield l),(2,.p (.ptr [.aO (vs.map ay)] 0)),(7,.p (.int .i64 ((2^n:Nat):Int))),(8,.p (.int .i64 0))] σ 18 none=_:=hlp
  (rw[fK (aD rfl),ew];simp(disch:=omega)only[aB,↓aa,seval,-List.reduceReplicate,reduceCtorEq,ae,hsh,rY,h',fm,lH,gc3])
 |false=>
  rw[if_neg (by simp)]at hlp
  obtain⟨⟨e,τ',σ2,nt',rd'⟩,g1,g2,g3⟩:=hlp
  simp only at g2 g3
  subst g2;subst g3;have h':al P iW [(0,.yield l),(2,.p (.ptr [.aO (vs.map ay)] 0)),(7,.p (.int .i64 ((2^n:Nat):Int))),(8,.p (.int .i64 0))] σ 18 none=_:=g1
  (rw[fK (aD rfl),ew];simp(disch:=omega)only[aB,↓aa,seval,-List.reduceReplicate,reduceCtorEq,ae,hsh,rY,h',gc3])
abbrev aqi(l:List V2)(s:List Bd×Nat)(i:Int):List (Nat×AV):=[(3,.sl 0 s.1.length),(4,.p (.int .u64 (s.2:Int))),(9,.p (.aO (l.map ay))),(10,.p (.int .i64 l.length)),(11,.p (.int .i64 i))]
theorem aqP{w n:Nat}(h:w≤16):n &&& (2^w-1)=n % 2^w:=Nat.and_two_pow_sub_one_eq_mod n w
theorem auX(l:List V2)(hw:∀v∈l,1≤v.w∧v.w≤16)(hl:l.length≤40)(n:Nat)(hn:n<65536):R P bV [.ptr [.int .i64 (n:Int)] 0,.ptr [.aO (l.map ay)] 0]=some (.aO ((gC n l).map W4)):=by
 obtain⟨_,h⟩:=fY (P:=P) (nt:=33) (lv:=[3,4,9,10,11]) (b:=gw) (rd:=none) (as:=l) (fun i (s:List Bd×Nat)=>aqi l s i) sAs (fun _ s v=>asF s v) (fun i s=>s.1.length=i∧W s.2)
  (fun i v s hv hi hs=>by
   obtain⟨s,n⟩:=s;obtain⟨hs1,hs2⟩:=hs
   simp only at hs1 hs2
   have hlt:((i:Int)<l.length)=True:=by simpa using hi
   have hx:=fun σ=>aH (k:=.i64) (es:=2) (σ:=σ) (aw (f:=ay) hv) (HL v)
   obtain⟨w1,w2⟩:=hw v (mR hv);have hwn:((v.w.toNat:Nat):Int)=v.w:=Int.toNat_of_nonneg (by omega)
   have hw16:v.w.toNat≤16:=by omega
   have hp:(2:Nat)^v.w.toNat≤65536:=aa7 (show 0<2 by omega) hw16
   have hpos:0<(2:Nat)^v.w.toNat:=RD (by omega)
   have hcw:cw v.w=v.w.toNat:=by rw[←hwn,aqg (by omega)];omega
   have hshr:=agl (k:=.i64) (a:=n) (n:=v.w.toNat) (by omega)
   rw[hwn]at hshr;have hshl:=agk (k:=.i64) (a:=1) (n:=v.w.toNat) (by omega)
   rw[hwn,Nat.one_mul,acn (by omega)]at hshl
   have hshl':cB .shl (.p (.int .u64 1)) (.p (.int .i64 v.w))=some (.p (.int .u64 ((2^v.w.toNat:Nat):Int))):=hshl;have hsub:IntKind.u64.wrap (((2^v.w.toNat:Nat):Int)-1)=((2^v.w.toNat-1:Nat):Int):=by rw[IntWalk.u64_in _ (by omega)];omega
   have hand:=apx (a:=n) (b:=2^v.w.toNat-1) hs2 (by omega)
   rw[aqP hw16]at hand;have hap:=dP (σ:=sAs (s,n)++[.pv 2 [[.str v.name,.int .u64 ((n % 2^cw v.w:Nat):Int)]] false]) (b:=0) (n:=s.length) (e:=mX 2 s) (es:=2) (bytes:=24) (rows:=s.map W4) (new:=[[.str v.name,.int .u64 ((n % 2^cw v.w:Nat):Int)]]) rfl (by simp) (sq _ _ _) (by simp only[lZ,nz];omega)
   simp only[sAs,F9,y8]at hap;rw[hcw]at hap;refine⟨⟨by simp[asF,hs1],abr (ab4 _ _) hs2⟩,?_⟩
   simp only[gw,asF,hcw];simp(disch:=omega)only[aB,↓aa,seval,-List.reduceReplicate,reduceCtorEq,ae,hlt,hx,aR,DS,MG,MI,agI,agJ,Rw,Rx,hshl',hsub,hand,avU,ap9,arU,hap,hshr,CR,jS,kM,W4,aqi,sAs]) (fun i s=>rfl) ([],n) ⟨rfl,by show n<_;omega⟩ _ (kD asF l 0 ([],n))
 have hA:=afI l [] n;rw[y8]at hA;generalize l.foldl asF ([],n)=z at *;obtain⟨z1,z2⟩:=z
 simp only at hA
 subst hA;have h':al P kV [(3,.sl 0 0),(4,.p (.int .u64 (n:Int))),(9,.p (.aO (l.map ay))),(10,.p (.int .i64 l.length)),(11,.p (.int .i64 0))] [.pv 0 [] false] 33 none=_:=h;have hcv:IntKind.u64.wrap (n:Int)=n:=IntWalk.u64_in _ (by omega)
 (rw[AG (aD rfl),eS];simp(disch:=omega)only[aB,↓aa,seval,-List.reduceReplicate,reduceCtorEq,ae,hcv,zV,h',gw,lH,aR,aqi,sAs])
theorem at0{s:Int}:RF 1 0 0 1 false (some (.pv 1 [[.int .i64 s]] false))=some (.p (.int .i64 s)):=rfl
theorem au5{s t:Int}:Wj [.pv 1 [[.int .i64 s]] false] 0 1 0 0 [.p (.int .i64 t)] (some (.pv 1 [[.int .i64 s]] false))=some [.pv 1 [[.int .i64 t]] false]:=rfl
theorem arh{s:Int}{x:PV}:aG [.pv 1 [[.int .i64 s]] false] 12 (.fn ck [.ptr 0 1 0 0,.p x])=some (.fn ck [.ptr [.int .i64 s] 0,x]):=by simp[aG,omap]
abbrev apg(l:List V2)(i:Int):List (Nat×AV):=[(1,.p (.ptr [.aO (l.map ay)] 0)),(3,.ptr 0 1 0 0),(6,.p (.aO (l.map ay))),(7,.p (.int .i64 l.length)),(8,.p (.int .i64 i))]
theorem Tv:∀(l:List V2) (i:Nat) (s:Int),aq (T:=Empty) (fun _ s (v:V2)=>.inl (s+v.w)) i s l=.inl (s+js l)
 | [],i,s=>by simp[aq,js]
 |v::l,i,s=>by
  rw[aq]
  simp only
  rw[Tv l (i+1),js,Int.add_assoc]
theorem SF(l:List V2)(hw:∀v∈l,uo v)(hl:l.length≤1000000000):R P eu [.aO (l.map ay)]=some (.fn ck [.ptr [.int .i64 (js l)] 0,.ptr [.aO (l.map ay)] 0]):=by
 obtain⟨_,h⟩:=fY (P:=P) (nt:=18) (lv:=[1,3,6,7,8]) (b:=j3) (rd:=none) (as:=l) (fun i (_:Int)=>apg l i) (fun s=>[.pv 1 [[.int .i64 s]] false]) (fun _ s v=>s+v.w) (fun i s=>0≤s∧s≤i*64)
  (fun i v s hv hi hs=>by
   obtain⟨s0,s1⟩:=hs;have hlt:((i:Int)<l.length)=True:=by simpa using hi
   have hx:=fun σ=>aH (k:=.i64) (es:=2) (σ:=σ) (aw (f:=ay) hv) (HL v)
   have hok:=hw v (mR hv);unfold uo at hok;have hwr:IntKind.i64.wrap (s+v.w)=s+v.w:=IntWalk.i64_in _ (by omega)
   refine⟨⟨by omega,by omega⟩,?_⟩
   simp only[j3];simp(disch:=omega)only[aB,↓aa,seval,-List.reduceReplicate,reduceCtorEq,ae,hlt,hx,aR,DS,MG,MI,Rw,Rx,hwr,au3,aps,at0,au5,apg]) (fun i s=>rfl) 0 ⟨by omega,by omega⟩ _ (Tv l 0 0)
 rw[Int.zero_add]at h;have h':al P oE [(1,.p (.ptr [.aO (l.map ay)] 0)),(3,.ptr 0 1 0 0),(6,.p (.aO (l.map ay))),(7,.p (.int .i64 l.length)),(8,.p (.int .i64 0))] [.pv 1 [[.int .i64 0]] false] 18 none=_:=h
 (rw[D4 (aD rfl),iz];simp(disch:=omega)only[aB,↓aa,seval,-List.reduceReplicate,reduceCtorEq,ae,C7,h',j3,lH,aR,Vi,Gh,arh])
def SY(l:List V2):Prop:=∃a∈l,∃b∈l,a.name=b.name∧a.w≠b.w
def AQ(l:List V2):Prop:=l.Pairwise fun a b=>nD a b=true
theorem FD:∀(l:List V2) (p:V2),HT (p::l)→AQ (p::AH p l)
 | [],p,_=>by simp[AH,AQ]
 |a::r,p,h=>by
  have h1:=MJ.1 h;have h2:=MJ.1 h1.2;unfold AH;by_cases c:a.name=p.name∧a.w=p.w
  ·rw[if_pos c]
   exact FD r p (MJ.2 ⟨fun b hb=>h1.1 b (by simp[hb]),h2.2⟩)
  ·rw[if_neg c]
   have ih:=FD r a h1.2
   have hpa:nD p a=true:=by
    rcases IT p a with h3|rfl|h3
    ·exact h3
    ·exact absurd ⟨rfl,rfl⟩ c
    ·rw[h1.1 a (by simp)]at h3;cases h3
   refine MJ.2 ⟨fun b hb=>?_,ih⟩
   rcases pU.1 hb with rfl|hb
   ·exact hpa
   ·exact zY hpa ((MJ.1 ih).1 b hb)
theorem UX{l:List V2}(h:HT l):AQ (rF l):=by
 cases l with
 |nil=>simp[rF,AQ]
 |cons a r=>exact FD r a h
theorem Dr(l:List Term):AQ (cN l):=UX (Eu _)
theorem XS(K:List V2):∀(r:List V2) (i:Nat),K.drop i=r→(H6 K r i=true↔∃j,i≤j∧0<j∧∃u v,K[j-1]?=some u∧K[j]?=some v∧u.name=v.name)
 | [],i,h=>by
  have hl:K.length≤i:=List.drop_eq_nil_iff.1 h;simp only[H6,lG,false_iff]
  rintro⟨j,h1,h2,u,v,h3,h4,h5⟩
  have:=(gA.1 h4).1;omega
 |w::r,i,h=>by
  have hi:i<K.length:=by
   have:=congrArg List.length h;simp at this;omega
  have hw:K[i]?=some w:=by
   have:=congrArg (·[0]?) h;simpa using this
  have hr:K.drop (i+1)=r:=by
   have:=congrArg (List.drop 1) h;simpa using this
  unfold H6;rw[RC,XS K r (i+1) hr];constructor
  ·rintro(h1|⟨j,h1,h2,h3⟩)
   ·unfold R5 at h1
    simp only[vM,decide_eq_true_eq]at h1;obtain⟨h1,h2⟩:=h1;cases hg:K[i-1]? with
    |none=>rw[hg]at h2;cases h2
    |some u=>
     rw[hg]at h2;exact⟨i,rU _,h1,u,w,hg,hw,by simpa using h2⟩
   ·exact⟨j,by omega,h2,h3⟩
  ·rintro⟨j,h1,h2,u,v,h3,h4,h5⟩
   by_cases e:j=i
   ·subst e
    left
    unfold R5;rw[h3];rw[hw]at h4;cases h4;simp[h2,h5]
   ·exact .inr ⟨j,by omega,h2,u,v,h3,h4,h5⟩
theorem PM{a b:V2}(h:nD a b=true):slt b.name a.name=false:=by
 rcases(zX a b).1 h with h|⟨h,_⟩
 ·exact r8 h
 ·rw[h,gX]
theorem ahg{K:List V2}(hs:AQ K):H6 K K 0=true↔SY K:=by
 rw[XS K K 0 rfl];constructor
 ·rintro⟨j,_,h2,u,v,h3,h4,h5⟩
  obtain⟨i1,e1⟩:=gA.1 h3;obtain⟨i2,e2⟩:=gA.1 h4;have h6:=abe.1 hs (j-1) j i1 i2 (by omega)
  rw[e1,e2]at h6;refine⟨u,mR h3,v,mR h4,h5,fun e=>?_⟩
  have:u=v:=Ru h5 e;rw[this,Ba]at h6;cases h6
 ·rintro⟨a,ha,b,hb,hn,hw⟩
  have main:∀(i j:Nat) (hi:i<K.length) (hj:j<K.length),i<j→K[i].name=K[j].name→∃j,0≤j∧0<j∧∃u v,K[j-1]?=some u∧K[j]?=some v∧u.name=v.name:=by
   intro i j hi hj hij h;have hi1:i+1<K.length:=by omega
   refine⟨i+1,by omega,by omega,K[i],K[i+1],by simp[hi],by simp[hi1],?_⟩
   have h1:=abe.1 hs i (i+1) hi hi1 (by omega)
   by_cases e:i+1=j
   ·subst e;exact h
   ·have h2:=abe.1 hs (i+1) j hi1 hj (by omega)
    have k1:=PM h1;have k2:=PM h2;rw[←h]at k2;rcases sz K[i].name K[i+1].name with h3|h3|h3
    ·rw[h3]at k2;cases k2
    ·exact h3
    ·rw[h3]at k1;cases k1
  obtain⟨i,hi,rfl⟩:=List.getElem_of_mem ha;obtain⟨j,hj,rfl⟩:=List.getElem_of_mem hb;rcases Nat.lt_trichotomy i j with c|c|c
  ·exact main i j hi hj c hn
  ·subst c;exact absurd rfl hw
  ·exact main j i hj hi c hn.symm
theorem Lh{a b:List V2}(h:∀x,x∈a↔x∈b):SY a↔SY b:=by
 constructor
 ·rintro⟨x,hx,y,hy,h1⟩;exact⟨x,(h x).1 hx,y,(h y).1 hy,h1⟩
 ·rintro⟨x,hx,y,hy,h1⟩;exact⟨x,(h x).2 hx,y,(h y).2 hy,h1⟩
theorem zk{l:List Term}{v:V2}:v∈cN l↔v∈rD l:=by
 unfold cN;rw[Tf,tQ]
theorem ang(l:List Term):H6 (cN l) (cN l) 0=true↔SY (rD l):=by
 rw[ahg (Dr l)];exact Lh fun x=>zk
theorem PT{K:List V2}(hs:AQ K)(hc:¬SY K):dS K:=by
 refine abe.2 fun i j hi hj hij=>?_
 have h:=abe.1 hs i j hi hj hij;rcases(zX _ _).1 h with h1|⟨h1,h2⟩
 ·exact h1
 ·exact absurd ⟨K[i],aba _,K[j],aba _,h1,by omega⟩ hc
theorem WZ:∀(l:List V2) (n:Int),(∀v∈l,uo v)→(16<nV n l↔16<n+js l)∧(n+js l≤16→nV n l=n+js l)
 | [],n,_=>by simp[nV,js]
 |v::l,n,h=>by
  have hv:=h v (by simp)
  unfold uo at hv
  have hp:∀(l:List V2),(∀v∈l,uo v)→0≤js l:=by
   intro l
   induction l with
   |nil=>intro _;simp[js]
   |cons a l ih=>
    intro h;have:=h a (by simp)
    unfold uo at this;have:=ih (fun v hv=>h v (by simp[hv]))
    unfold js;omega
  have hs:=hp l (fun v hv=>h v (by simp[hv]))
  unfold nV js;by_cases c:n≤16
  ·rw[if_pos c]
   have:=WZ l (n+v.w) (fun v hv=>h v (by simp[hv]))
   rw[Int.add_assoc]at this;exact this
  ·rw[if_neg c]
   omega
theorem agW{l:List V2}(h:∀v∈l,uo v):(16<xP l↔16<js l)∧(js l≤16→xP l=js l):=by
 have:=WZ l 0 h;rw[Int.zero_add]at this;unfold xP;omega
structure Good (l:List Term):Prop where
 chk:DW l=0
 yu:¬SY (rD l)
 bits:js (cN l)≤16
theorem ano{l:List Term}(h:yD l=0):Good l:=by
 unfold yD at h;split at h
 ·rename_i c;exact absurd h c
 ·rename_i c
  have c':DW l=0:=by simpa using c
  split at h
  ·cases h
  ·rename_i d
   split at h
   ·cases h
   ·rename_i b
    exact⟨c',fun hc=>d ((ang l).2 hc),by omega⟩
theorem Good.ok{l:List Term}(h:Good l):∀v∈cN l,uo v:=acu h.chk
theorem Good.sorted{l:List Term}(h:Good l):dS (cN l):=PT (Dr l) (fun c=>h.yu ((Lh fun x=>zk).1 c))
theorem JP:∀{l:List V2},(∀v∈l,uo v)→(l.length:Int)≤js l∧∀v∈l,v.w≤js l
 | [],_=>by simp[js]
 |a::l,h=>by
  have h1:=h a (by simp)
  unfold uo at h1;obtain⟨h2,h3⟩:=JP (l:=l) (fun v hv=>h v (by simp[hv]))
  unfold js;refine⟨by simp only[lZ];omega,fun v hv=>?_⟩
  rcases pU.1 hv with rfl|hv
  ·omega
  ·have:=h3 v hv;omega
theorem Good.len{l:List Term}(h:Good l):(cN l).length≤16:=by
 have:=(JP h.ok).1;have:=h.bits;omega
theorem Good.w16{l:List Term}(h:Good l):∀v∈cN l,1≤v.w∧v.w≤16:=fun v hv=>by
 have h1:=h.ok v hv;have h2:=(JP h.ok).2 v hv;have:=h.bits;unfold uo at h1;omega
def B4(l:List Term):Nat:=(js (cN l)).toNat
theorem Good.acT{l:List Term}(h:Good l):B4 l≤16:=by unfold B4;have:=h.bits;omega
theorem Good.sum{l:List Term}(h:Good l):js (cN l)=(B4 l:Int):=by
 unfold B4;have:=(JP h.ok).1;omega
theorem Good.xP{l:List Term}(h:Good l):xP (cN l)=(B4 l:Int):=by rw[←h.sum];exact(agW h.ok).2 h.bits
theorem Ri:∀(r p:List V2),dS (p++r)→BD DP p r=false
 | [],p,_=>rfl
 |u::r,p,h=>by
  unfold BD;have h1:dS ((p++[u])++r):=by simpa using h
  rw[Ri r (p++[u]) h1,Bool.or_false,RB];intro a ha;unfold DP;have h2:=(List.pairwise_append.1 h).2.2 a ha u (by simp)
  have h3:slt a.name u.name=true:=h2;simp only[decide_eq_true_eq];intro e;rw[e,gX]at h3;cases h3
theorem Good.bound{l:List Term}(h:Good l){t:Term}(ht:t∈l):sF t (cN l)=true:=by
 unfold sF;rw[Ri _ [] (by simpa using h.sorted)]
 have key:(nP t).any (fun u=>!((cN l).any fun a=>eqV a u))=false:=by
  rw[RB];intro u hu;have hm:u∈cN l:=CG.2 ⟨t,ht,hu⟩;have h2:((cN l).any fun a=>eqV a u)=true:=abE.2 ⟨u,hm,by simp[eqV]⟩
  rw[h2];simp
 rw[key];rfl
theorem Good.tab{l:List Term}(h:Good l){t:Term}(ht:t∈l):Gl t (cN l)=0:=by
 unfold Gl;rw[if_neg (by simpa using FP h.chk t ht),if_neg (by rw[h.bound ht];simp)]
 have hb:(cN l).any ML=false:=by
  rw[RB];intro v hv;have:=h.ok v hv;unfold uo at this;simp only[ML,RC,decide_eq_true_eq];omega
 rw[hb,if_neg (by simp),if_neg (by rw[h.xP];have:=h.acT;omega)]
def Sl(x:List Nat):List PV:=[.aO (x.map Dq)]
abbrev tvX(L:List Term)(t:Term):List Nat:=afq t (cN L) (B4 L)
theorem akO{L:List Term}(hg:Good L){t:Term}(hm:t∈L)(ht:iD t)(hc:t.count≤1000000):R P l6 [.agg t.row,.aO ((cN L).map ay)]=some (.jY [.aO ((tvX L t).map Dq),.int .i64 0]):=by
 have h:=anJ t ht hc (cN L) (by have:=hg.len;omega) (B4 L) (fun _=>⟨hg.xP,hg.acT⟩)
 unfold afr at h;rw[if_pos (hg.tab hm)]at h;exact h
theorem atg{r:List (List PV)}:lr σ 1 1 (gR (List.replicate 1 [.aA]).flatten [(0,1,.p (.aO r))])=some (.sl σ.length 1,σ++[.pv 1 [[.aO r]] false]):=rfl
theorem aoz{o:Obj}{a:List PV}{fr:Bool}:nO [o,.pv 1 [a] fr] 1 (.sl 1 1)=some (.inl [a]):=FH rfl rfl (.inl rfl)
abbrev ajz(vs:List V2)(l:List Term)(s:List (List Nat))(i:Int):List (Nat×AV):=[(0,.p (.aO (vs.map ay))),(5,.sl 0 s.length),(10,.p (.aO (l.map Term.row))),(11,.p (.int .i64 l.length)),(12,.p (.int .i64 i))]
abbrev sTb(s:List (List Nat)):ah:=[.pv (mX 1 s) (s.map Sl) false]
theorem alM(L:List Term)(hg:Good L)(hT:∀t∈L,iD t∧t.count≤1000000)(l:List Term)(hl:∀t∈l,t∈L)(hn:l.length≤100):R P fT [.aO ((cN L).map ay),.aO (l.map Term.row)]=some (.aO ((l.map (tvX L)).map Sl)):=by
 obtain⟨_,h⟩:=fY (P:=P) (nt:=28) (lv:=[0,5,10,11,12]) (b:=pJ) (rd:=none) (as:=l) (fun i (s:List (List Nat))=>ajz (cN L) l s i) sTb (fun _ s t=>s++[tvX L t]) (fun i s=>s.length=i)
  (fun i t s hv hi hs=>by
   have hlt:((i:Int)<l.length)=True:=by simpa using hi
   have hx:=fun σ=>aH (k:=.i64) (es:=5) (σ:=σ) (aw (f:=Term.row) hv) t.az
   have hm:=hl t (mR hv);have hTb:=akO hg hm (hT t hm).1 (hT t hm).2;have hap:=dP (σ:=sTb s++[.pv 1 [[.aO ((tvX L t).map Dq)]] false]) (b:=0) (n:=s.length) (e:=mX 1 s) (es:=1) (bytes:=24) (rows:=s.map Sl) (new:=[[.aO ((tvX L t).map Dq)]]) rfl (by simp) (sq _ _ _) (by simp only[lZ,nz];omega)
   simp only[sTb,F9,y8]at hap;refine⟨by simp[hs],?_⟩
   simp only[pJ];generalize tvX L t=V at *;generalize cN L=K at *;simp(disch:=omega)only[aB,↓aa,seval,-List.reduceReplicate,reduceCtorEq,ae,hlt,hx,aR,VK,hTb,atg,aoz,hap,CR,jS,kM,Sl,ajz,sTb]) (fun i s=>rfl) [] rfl _ (zb (tvX L) l 0 [])
 rw[y8]at h;have h':al P uM [(0,.p (.aO ((cN L).map ay))),(5,.sl 0 0),(10,.p (.aO (l.map Term.row))),(11,.p (.int .i64 l.length)),(12,.p (.int .i64 0))] [.pv 0 [] false] 28 none=_:=h;have hP:∀(k e:Nat) (s:List (List Nat)),aG [.pv e (s.map Sl) false] (k+1) (.sl 0 s.length)=some (.aO (s.map Sl)):=fun k e s=>by simp[aG]
 generalize l.map (tvX L)=S at *;generalize cN L=K at *
 (rw[KP (aD rfl),nj];simp(disch:=omega)only[aB,↓aa,seval,-List.reduceReplicate,reduceCtorEq,ae,Ix,h',pJ,lH,aR,hP,ajz,sTb])
end Go.AE.S
