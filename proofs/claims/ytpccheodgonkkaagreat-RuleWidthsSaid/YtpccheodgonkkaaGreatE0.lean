import Derived.Test.YtpccheodgonkkaaGreatC0
import Derived.Test.YtpccheodgonkkaaGreatD1
import Derived.Test.YtpccheodgonkkaaGreatD2
set_option maxHeartbeats 0
set_option linter.unusedSimpArgs false
set_option linter.unusedVariables false
namespace Go.AE.S
open Go Go.AE
def nb(a b:V2):Bool:=slt a.name b.name ||(a.name.toList == b.name.toList && decide (a.w<b.w))
theorem OU(a b:V2):UM (ay a) (ay b)=nb a b:=rfl
theorem Af(a:V2):nb a a=false:=by simp[nb,gG]
theorem alC{a b:ByteArray}(h:a.toList=b.toList):a=b:=by
 rcases rU a b with h1|h1|h1
 ·unfold slt at h1;rw[h]at h1
  have:=gG b;unfold slt at this;rw[this]at h1;cases h1
 ·exact h1
 ·unfold slt at h1;rw[h]at h1
  have:=gG b;unfold slt at this;rw[this]at h1;cases h1
theorem y7(a b:V2):nb a b=true↔slt a.name b.name=true∨(a.name=b.name∧a.w<b.w):=by
 unfold nb;simp only[QN,ud,beq_iff_eq,decide_eq_true_eq];exact or_congr Iff.rfl (and_congr ⟨alC,fun h=>by rw[h]⟩ Iff.rfl)
theorem H5(a b:V2):nb a b=true∨a=b∨nb b a=true:=by
 rcases rU a.name b.name with h|h|h
 ·exact .inl ((y7 a b).2 (.inl h))
 ·rcases Int.lt_trichotomy a.w b.w with h2|h2|h2
  ·exact .inl ((y7 a b).2 (.inr ⟨h,h2⟩))
  ·exact .inr (.inl (by cases a;cases b;simp only at h h2;rw[h,h2]))
  ·exact .inr (.inr ((y7 b a).2 (.inr ⟨h.symm,h2⟩)))
 ·exact .inr (.inr ((y7 b a).2 (.inl h)))
theorem y8{a b c:V2}(h1:nb a b=true)(h2:nb b c=true):nb a c=true:=by
 rw[y7]at *;rcases h1 with h1|⟨e1,h1⟩<;>rcases h2 with h2|⟨e2,h2⟩
 ·exact .inl (tk h1 h2)
 ·exact .inl (e2 ▸ h1)
 ·exact .inl (e1 ▸ h2)
 ·exact .inr ⟨e1.trans e2,by omega⟩
theorem aho{a b:V2}(h:nb a b=true):nb b a=false:=by
 cases hb:nb b a with
 |false=>rfl
 |true=>have:=y8 h hb;rw[Af]at this;cases this
theorem SI{α:Type}(lt:α→α→Bool)(x:α):∀l:List α,(Dh lt x l).Perm (x::l)
 | []=>.refl _
 |y::r=>by
  unfold Dh;split
  ·exact((SI lt x r).cons y).trans (.swap x y r)
  ·exact .refl _
theorem Cr{α:Type}(lt:α→α→Bool):∀l:List α,(dd lt l).Perm l
 | []=>.refl _
 |x::r=>(SI lt x (dd lt r)).trans ((Cr lt r).cons x)
def GZ(l:List V2):Prop:=l.Pairwise fun a b=>nb b a=false
theorem OG{x:V2}:∀{l:List V2},GZ l→GZ (Dh nb x l)
 | [],_=>by simp[Dh,GZ]
 |z::r,hs=>by
  have hs':=LQ.1 hs;unfold Dh;split
  ·rename_i hzx
   refine LQ.2 ⟨fun b hb=>?_,OG hs'.2⟩
   rcases HB.1 hb with rfl|hb
   ·exact aho hzx
   ·exact hs'.1 b hb
  ·rename_i hzx
   refine LQ.2 ⟨fun b hb=>?_,hs⟩
   rcases pn.1 hb with rfl|hb
   ·simpa using hzx
   ·cases hbx:nb b x with
    |false=>rfl
    |true=>
     exfalso;have h1:=hs'.1 b hb;rcases H5 b z with h|rfl|h
     ·rw[h]at h1;cases h1
     ·exact hzx hbx
     ·exact hzx (y8 h hbx)
theorem DK:∀l:List V2,GZ (dd nb l)
 | []=>by simp[dd,GZ]
 |x::r=>OG (DK r)
theorem aey{l m:List V2}(hl:GZ l)(hm:GZ m)(hp:l.Perm m):l=m :=
 List.Perm.eq_of_pairwise (fun a b _ _ h1 h2=>by
  rcases H5 a b with h|h|h
  ·rw[h2]at h;cases h
  ·exact h
  ·rw[h1]at h;cases h) hl hm hp
def zI(p:V2):List V2→List V2
 | []=>[]
 |a::r=>if a.name=p.name∧a.w=p.w then zI p r else a::zI a r
def qU:List V2→List V2
 | []=>[]
 |a::r=>a::zI a r
theorem QC{a b:V2}(h1:a.name=b.name)(h2:a.w=b.w):a=b:=by cases a;cases b;simp only at h1 h2;rw[h1,h2]
theorem Xh(a b:V2):pQ.eqVW (ay a) (ay b)=true↔a=b:=by
 show(a.name.toList == b.name.toList && decide (a.w=b.w))=true↔_
 simp only[ud,beq_iff_eq,decide_eq_true_eq];exact⟨fun h=>QC (alC h.1) h.2,fun h=>by rw[h];exact⟨rfl,rfl⟩⟩
theorem Rb(a:V2):∀r:List V2,pQ ((a::r).map ay)=(a::zI a r).map ay:=by
 intro r
 induction r generalizing a with
 |nil=>rfl
 |cons b r ih=>
  have e:pQ ((a::b::r).map ay)=if pQ.eqVW (ay a) (ay b)then pQ ((b::r).map ay)else ay a::pQ ((b::r).map ay):=rfl
  rw[e,ih b];by_cases h:a=b
  ·subst h
   rw[if_pos ((Xh a a).2 rfl)];simp[zI]
  ·rw[if_neg (fun x=>h ((Xh a b).1 x))]
   have:¬(b.name=a.name∧b.w=a.w):=fun x=>h (QC x.1.symm x.2.symm)
   simp[zI,this]
theorem Hf:∀l:List V2,pQ (l.map ay)=(qU l).map ay
 | []=>rfl
 |a::r=>Rb a r
variable {τ:Tm} {σ:ag} {rd:Option Nat}
def De:List Term→Int
 | []=>0
 |t::r=>if gZ t=0 then De r else gZ t
theorem Xn:∀(l:List Term) (i:Nat),aq (S:=Unit) (T:=Int) (fun _ _ t=>if gZ t=0 then .inl ()else .inr (gZ t)) i () l=if De l=0 then .inl ()else .inr (De l)
 | [],i=>rfl
 |t::l,i=>by
  unfold aq De;by_cases h:gZ t=0
  ·simp only[h,if_true]
   exact Xn l (i+1)
  ·simp only[h,if_false]
def adz(e:Int)(r:Ex×St):Prop:=r.1=.ret∧r.2.τ.get 2=.aC∧r.2.τ.get 3=.p (.int .i64 e)
abbrev ac4(l:List Term)(i:Int):List (Nat×AV):=[(0,.p (.aM (l.map Term.row))),(13,.p (.aM (l.map Term.row))),(14,.p (.int .i64 l.length)),(15,.p (.int .i64 i))]
theorem ajO(l:List Term)(ht:∀t∈l,ia t∧t.count≤1000000)(hl:l.length≤1000):if De l=0 then al P rE (ac4 l 0) [] 68 none=back P [0,13,14,15] fm 0 (exec P fm ⟨tm (ac4 l l.length),[],68,none⟩)else ∃r,al P rE (ac4 l 0) [] 68 none=some r∧adz (De l) r:=by
 have h:=cE (P:=P) (nt:=68) (lv:=[0,13,14,15]) (b:=fm) (rd:=none) (as:=l) (fun k (_:Unit)=>ac4 l k) (fun _=>[]) (fun _ _ t=>if gZ t=0 then .inl ()else .inr (gZ t)) adz (fun _ _=>True)
  (fun i t s hv hi hs=>by
   refine⟨fun _ _=>trivial,?_⟩
   have hlt:((i:Int)<l.length)=True:=by simpa using hi
   have hx:=fun σ=>aJ (k:=.i64) (es:=5) (σ:=σ) (ax (f:=Term.row) hv) t.aB
   obtain⟨h1,h2⟩:=ht t (mi hv);have hk:=I6 t h1 h2;rcases dB (gZ t=0)with c|c
   ·simp only[fm,of_eq_true c,if_true]
    rw[of_eq_true c]at hk;simp(disch:=omega)only[aA,↓aa,seval,-List.reduceReplicate,reduceCtorEq,ae,hlt,hx,aO,lY,hk,ac4,adz]
   ·simp only[fm,c,if_false]
    simp(disch:=omega)only[aA,↓aa,seval,-List.reduceReplicate,reduceCtorEq,ae,hlt,hx,aO,lY,hk,c,ac4,adz]) (fun i s=>rfl) () trivial
 rw[Xn]at h;by_cases hb:De l=0
 ·rw[if_pos hb]at h;rw[if_pos hb];exact h.2
 ·rw[if_neg hb]at h;rw[if_neg hb];exact h
def qS(l:List Term):List V2:=l.flatMap nr
abbrev sX(s:Bool×List V2):ag:=[.pv (if s.1=true then 2 else 0) (s.2.map ay) false]
abbrev ai7(l:List Term)(s:Bool×List V2)(i:Int):List (Nat×AV):=[(7,.sl 0 s.2.length),(25,.p (.aM (l.map Term.row))),(26,.p (.int .i64 l.length)),(27,.p (.int .i64 i))]
theorem Ol:∀(l:List Term) (i:Nat) (s:Bool×List V2),aq (T:=Empty) (fun _ (s:Bool×List V2) t=>.inl (true,s.2++nr t)) i s l=.inl (if l=[]then s else(true,s.2++qS l))
 | [],i,s=>rfl
 |t::l,i,s=>by
  rw[aq]
  simp only
  rw[Ol l (i+1)];cases l with
  |nil=>simp[qS]
  |cons b l=>simp[qS]
theorem arR(l:List V2):wide 2 (l.map ay)=true:=by
 simp[wide,ay]
theorem ajT(l:List Term)(ht:∀t∈l,t.count≤1000000)(hl:l.length≤1000):al P rK (ai7 l (false,[]) 0) (sX (false,[])) 68 none=back P [7,25,26,27] gK 1 (exec P gK ⟨tm (ai7 l (!l.isEmpty,qS l) l.length),sX (!l.isEmpty,qS l),68,none⟩):=by
 obtain⟨_,h⟩:=ic (P:=P) (nt:=68) (lv:=[7,25,26,27]) (b:=gK) (rd:=none) (as:=l) (fun i (s:Bool×List V2)=>ai7 l s i) sX (fun _ s t=>(true,s.2++nr t)) (fun i s=>s.2.length≤i*1000000∧(s.1=false→s.2=[]))
  (fun i t s hv hi hs=>by
   obtain⟨f,s⟩:=s;obtain⟨h1,h2⟩:=hs
   simp only at h1 h2
   have hlt:((i:Int)<l.length)=True:=by simpa using hi
   have hx:=fun σ=>aJ (k:=.i64) (es:=5) (σ:=σ) (ax (f:=Term.row) hv) t.aB
   have hc:=ht t (mi hv);have hV:=LI t hc;have hn:=QF t;have hsp:=fun σ=>Qt (σ:=σ) (arR (nr t))
   have hi2:i*1000000≤1000*1000000:=MK _ (by omega)
   have hap:=dA (σ:=sX (f,s)) (b:=0) (n:=s.length) (e:=if f=true then 2 else 0) (es:=2) (bytes:=24) (rows:=s.map ay) (new:=(nr t).map ay) rfl (by simp) (by cases f with|true=>exact .inl rfl|false=>exact .inr ⟨rfl,by rw[h2 rfl];rfl⟩) (by rw[aO];omega)
   simp only[sX]at hap;refine⟨⟨by simp only[jE];omega,fun h=>by cases h⟩,?_⟩
   simp only[gK];generalize nr t=V at *;simp(disch:=omega)only[aA,↓aa,seval,-List.reduceReplicate,reduceCtorEq,ae,hlt,hx,aO,xp,hV,hsp,hap,BY,jE,ai7,sX]) (fun i s=>rfl) (false,[]) ⟨by simp,fun _=>rfl⟩ _ (Ol l 0 (false,[]))
 cases l with
 |nil=>exact h
 |cons a l=>exact h
theorem atn{K:List V2}{v:V2}{m i:Nat}{fr:Bool}(h:K[i]?=some v)(hn:K.length=m):Mm m i 0 2 true (some (.pv 2 (K.map ay) fr))=some (.p (.agg (ay v))):=by
 have hi:=(fU.1 h).1;have h2:=(fU.1 h).2;simp[Mm,hn,h2,h];rfl
theorem atm{K:List V2}{v:V2}{m i:Nat}{fr:Bool}(h:K[i]?=some v)(hn:K.length=m):Mm m i 0 1 false (some (.pv 2 (K.map ay) fr))=some (.p (.str v.name)):=by
 have hi:=(fU.1 h).1;have h2:=(fU.1 h).2;simp[Mm,hn,h2,h];rfl
def Q9(K:List V2)(i:Nat)(v:V2):Bool:=decide (0<i) && (match K[i-1]? with|some u=>decide (u.name=v.name)|none=>false)
theorem Gk{n:Nat}:AE.Obj.below n .gone=true:=rfl
def Hi(K:List V2):List V2→Nat→Bool
 | [],_=>false
 |v::r,i=>Q9 K i v ||Hi K r (i+1)
def jb:List V2→Int
 | []=>0
 |v::r=>v.w+jb r
def Zd(K:List V2)(i:Nat)(s:Int)(v:V2):Int ⊕ Unit:=if Q9 K i v=true then .inr ()else .inl (s+v.w)
theorem Ow(K:List V2):∀(l:List V2) (i:Nat) (s:Int),aq (Zd K) i s l=if Hi K l i=true then .inr ()else .inl (s+jb l)
 | [],i,s=>by simp[aq,Hi,jb]
 |v::l,i,s=>by
  rw[aq];unfold Zd Hi;by_cases h:Q9 K i v=true
  ·rw[if_pos h,h];simp
  ·rw[if_neg h]
   have h':Q9 K i v=false:=by simpa using h
   rw[h'];simp only[G1];have:=Ow K l (i+1) (s+v.w);unfold Zd at this;rw[this,jb,Int.add_assoc]
abbrev Xd(K:List V2)(s i:Int):List (Nat×AV):=[(7,.sl 1 K.length),(10,.p (.int .i64 s)),(40,.sl 1 K.length),(41,.p (.int .i64 K.length)),(42,.p (.int .i64 i))]
abbrev sY(e:Nat)(K:List V2):ag:=[.gone,.pv e (K.map ay) false]
theorem aiC{o o1:Obj}:vl 2 (aW [.p (.str (bs [])),.p (.int .i64 0)] [o,o1])=some (.ptr 2 1 0 0,[o,o1,.pv 2 [[.str (bs []),.int .i64 0]] false]):=rfl
theorem ajV(e:Nat)(K:List V2)(he:e=2∨K=[])(hw:∀v∈K,tq v)(hl:K.length≤1000000000):if Hi K K 0=true then ∃r,al P rM (Xd K 0 0) (sY e K) 68 none=some r∧adz 12 r else al P rM (Xd K 0 0) (sY e K) 68 none=back P [7,10,40,41,42] gL 2 (exec P gL ⟨tm (Xd K (jb K) K.length),sY e K,68,none⟩):=by
 have h:=cE (P:=P) (nt:=68) (lv:=[7,10,40,41,42]) (b:=gL) (rd:=none) (as:=K) (fun i (s:Int)=>Xd K s i) (fun _=>sY e K) (Zd K) (fun(_:Unit)=>adz 12) (fun i s=>0≤s∧s≤i*64)
  (fun i v s hv hi hs=>by
   obtain⟨s0,s1⟩:=hs
   have he2:e=2:=by
    rcases he with h|h
    ·exact h
    ·rw[h]at hv;cases hv
   subst he2;have hok:=hw v (mi hv);unfold tq at hok;have hlt:((i:Int)<K.length)=True:=by simpa using hi
   have hia:jS (sY 2 K) 2 (.sl 1 K.length) (.p (.int .i64 i))=some (.ptr 1 K.length i 0):=afj rfl (by simp) hi
   have hld:=atn (m:=K.length) (fr:=false) hv rfl;have hwr:IntKind.i64.wrap (s+v.w)=s+v.w:=IntWalk.i64_in _ (by omega)
   unfold Zd;refine⟨fun s' he=>?_,?_⟩
   ·by_cases hc:Q9 K i v=true
    ·rw[if_pos hc]at he;cases he
    ·rw[if_neg hc]at he
     cases he;exact⟨by omega,by omega⟩
   cases i with
   |zero=>
    have h0:((0:Int) > 0)=False:=by simp
    have hz:Q9 K 0 v=false:=rfl;have h01:IntKind.i64.wrap 1=1:=IntWalk.i64_in _ (by omega)
    simp only[gL,hz,kS,if_false];simp only[sY,Int.natCast_zero]at hia hlt;simp(disch:=omega)only[aA,↓aa,seval,-List.reduceReplicate,reduceCtorEq,ae,hlt,hia,hld,aiC,aly,XO,XP,hwr,h0,h01,Gk,Xd,sY]
   |succ j=>
    have hj:j<K.length:=by omega
    have Ri:(((j+1:Nat):Int) > 0)=True:=by simp only[eq_iff_iff,iff_true];omega
    have hjm:IntKind.i64.wrap (((j+1:Nat):Int)-1)=(j:Int):=by rw[IntWalk.i64_in _ (by omega)];omega
    obtain⟨u,hu⟩:∃u,K[j]?=some u:=⟨_,oq hj⟩;have hia2:=fun(o:Obj)=>(afj (σ:=[.gone,.pv 2 (K.map ay) false,o]) (b:=1) (m:=K.length) (es:=2) (j:=j) (fr:=false) rfl (by simp) hj:jS _ 2 (.sl 1 K.length) (.p (.int .i64 j))=_)
    have hls:=atm (m:=K.length) (fr:=false) hu rfl
    have hz:Q9 K (j+1) v=decide (u.name=v.name):=by
     unfold Q9;rw[show j+1-1=j from rfl,hu];simp
    simp only[sY]at hia;simp only[gL,hz];rcases dB (u.name=v.name)with hn|hn
    ·simp only[hn,decide_true,if_true]
     rw[of_eq_true hn]at hls;simp(disch:=omega)only[aA,↓aa,seval,-List.reduceReplicate,reduceCtorEq,ae,hlt,hia,hld,aiC,aly,XO,XP,Ri,hjm,hia2,hls,Gk,Xd,sY,adz]
    ·simp only[hn,decide_false,kS,if_false]
     simp(disch:=omega)only[aA,↓aa,seval,-List.reduceReplicate,reduceCtorEq,ae,hlt,hia,hld,aiC,aly,XO,XP,hwr,Ri,hjm,hia2,hls,hn,Gk,Xd,sY]) (fun i s=>rfl) 0 ⟨by omega,by omega⟩
 rw[Ow]at h;cases hb:Hi K K 0 with
 |true=>rw[hb,if_pos rfl]at h;rw[if_pos rfl];exact h
 |false=>rw[hb,if_neg (by simp),Int.zero_add]at h;rw[if_neg (by simp)];exact h.2
theorem au3{u:Term}(h:ur u=0)(h1:u.op=1):1≤u.w∧u.w≤64:=by
 have hn:=afA h;refine⟨hn.w,?_⟩;have hw:=hn.wd;have ha:=hn.ar.1;rw[h1]at hw ha;have hz:arity 1=0:=by decide
 unfold bw at hw;split at hw
 ·have:=congrArg Prod.snd hw;simp at this
 ·split at hw
  ·have:=congrArg Prod.snd hw;simp at this
  ·have hw2:qV 1 u.w u.v=(u.w,0):=hw
   unfold qV at hw2;split at hw2
   ·have:=congrArg Prod.snd hw2;simp at this
   ·omega
theorem alO{t:Term}(h:gZ t=0):∀v∈nr t,tq v:=by
 intro v hv;obtain⟨u,hu,h1,rfl⟩:=af0 hv;exact au3 (((NT t).1 h).2.2.1 u hu) h1
theorem E2:∀{l:List Term},De l=0→∀t∈l,gZ t=0
 | [],_,t,ht=>by simp at ht
 |a::l,h,t,ht=>by
  unfold De at h;by_cases h1:gZ a=0
  ·rw[if_pos h1]at h
   rcases pn.1 ht with rfl|ht
   ·exact h1
   ·exact E2 h t ht
  ·rw[if_neg h1]at h;exact absurd h h1
theorem Qb:∀(l:List V2) (p v:V2),(v∈zI p l→v∈l)∧(v∈l→v∈zI p l∨v=p)
 | [],p,v=>by simp[zI]
 |a::r,p,v=>by
  unfold zI;split
  ·rename_i h
   have e:a=p:=QC h.1 h.2;obtain⟨i1,i2⟩:=Qb r p v;refine⟨fun hm=>abp _ (i1 hm),fun hm=>?_⟩
   rcases pn.1 hm with rfl|hm
   ·exact .inr e
   ·exact i2 hm
  ·obtain⟨i1,i2⟩:=Qb r a v
   refine⟨fun hm=>?_,fun hm=>?_⟩
   ·rcases pn.1 hm with rfl|hm
    ·simp
    ·exact abp _ (i1 hm)
   ·rcases pn.1 hm with rfl|hm
    ·exact .inl (by simp)
    ·rcases i2 hm with h2|rfl
     ·exact .inl (abp _ h2)
     ·exact .inl (by simp)
theorem Sl{l:List V2}{v:V2}:v∈qU l↔v∈l:=by
 cases l with
 |nil=>rfl
 |cons a r=>
  unfold qU;obtain⟨i1,i2⟩:=Qb r a v;refine⟨fun hm=>?_,fun hm=>?_⟩
  ·rcases pn.1 hm with rfl|hm
   ·simp
   ·exact abp _ (i1 hm)
  ·rcases pn.1 hm with rfl|hm
   ·simp
   ·rcases i2 hm with h2|rfl
    ·exact abp _ h2
    ·simp
theorem ahP(l:List V2):∀p,(zI p l).length≤l.length:=by
 induction l with
 |nil=>intro p;simp[zI]
 |cons a r ih=>intro p;unfold zI;split;exact Nat.le_succ_of_le (ih p);simp[ih a]
theorem acP(l:List V2):(qU l).length≤l.length:=by cases l with|nil=>simp[qU]|cons a r=>simp[qU,ahP]
def cM(l:List Term):List V2:=qU (dd nb (qS l))
theorem BW{l:List Term}{v:V2}:v∈cM l↔∃t∈l,v∈nr t:=by
 unfold cM qS;rw[Sl,tc,Jp]
theorem Zr{l:List Term}(h:De l=0):∀v∈cM l,tq v:=by
 intro v hv;obtain⟨t,ht,hv⟩:=BW.1 hv;exact alO (E2 h t ht) v hv
theorem Js:∀{l:List Term} (n:Nat),(∀t∈l,t.count≤n)→(qS l).length≤l.length*n
 | [],n,_=>by simp[qS]
 |t::l,n,h=>by
  have h1:=Js (l:=l) n (fun a ha=>h a (abp _ ha))
  have h2:=ZG (QF t) (h t (by simp))
  show(nr t++qS l).length≤(l.length+1)*n
  rw[jE,acf];omega
theorem aic{l:List Term}(n:Nat)(h:∀t∈l,t.count≤n):(cM l).length≤l.length*n :=
 ZG (acP _) (by rw[(Cr nb (qS l)).length_eq];exact Js n h)
theorem amu(f:Bool)(l:List V2)(hf:f=false→l=[])(hl:l.length≤1000000000):lJ P bf [.sl 0 l.length,.p (.fn cR [])] (sX (f,l))=some (.p (.jC []),sX (f,dd nb l)):=by
 rw[k6]
 have h1:xn 2 dO okV XW [.sl 0 l.length,.p (.fn cR [])] (sX (f,l))=none:=by
  have hne:¬cR=dO:=by decide
  simp only[xn,if_neg hne]
 have h2:BJ 2 cR okV UM [.sl 0 l.length,.p (.fn cR [])] (sX (f,l))=some (.p (.jC []),sX (f,dd nb l)):=by
  simp only[BJ,sX,if_true,QS];rw[if_pos ⟨by simp,by omega,by cases f with|true=>exact .inr rfl|false=>exact .inl (by rw[hf rfl];rfl),TD l⟩]
  simp only[abc,vF OU]
 unfold yw;rw[h1,h2];rfl
theorem agm(f:Bool)(l:List V2)(hf:f=false→l=[])(hl:l.length≤1000000000):lJ P cD [.sl 0 l.length] (sX (f,l))=some (.sl 1 (qU l).length,[.gone,.pv (if f=true then 2 else 0) ((qU l).map ay) false]):=by
 rw[uA];simp only[xl,sX,QS];rw[if_pos ⟨by simp,by omega,by cases f with|true=>exact .inr rfl|false=>exact .inl (by rw[hf rfl];rfl),TD l⟩]
 simp only[Hf,aO,lH,l5,abc,FD,x9]
def xU(l:List Term):Int:=if ¬De l=0 then De l else if Hi (cM l) (cM l) 0=true then 12 else if 16<jb (cM l)then 7 else 0
def Da(l:List Term):List V2:=if xU l=0 then cM l else[]
theorem Qg(l:List Term)(ht:∀t∈l,ia t∧t.count≤1000000)(hl:l.length≤1000):R P kF [.aM (l.map Term.row)]=some (.jC [.aM ((Da l).map ay),.int .i64 (xU l)]):=by
 have h0:=ajO l ht hl;have h1:=ajT l (fun t h=>(ht t h).2) hl
 have hlen:=Js (l:=l) 1000000 (fun t h=>(ht t h).2)
 have hl2:l.length*1000000≤1000*1000000:=MK _ hl;have hK:=aic (l:=l) 1000000 (fun t h=>(ht t h).2)
 have hf:(!l.isEmpty)=false→qS l=[]:=fun h=>by
  cases l with
  |nil=>rfl
  |cons a l=>cases h
 have hs:=amu (!l.isEmpty) (qS l) hf (by omega)
 have hil:(dd nb (qS l)).length=(qS l).length:=(Cr nb (qS l)).length_eq;have hc:=agm (!l.isEmpty) (dd nb (qS l)) (fun h=>by rw[hf h];rfl) (by rw[hil];omega)
 rw[hil]at hc;simp only[ac4]at h0;simp only[ai7]at h1;rcases dB (De l=0)with c0|c0
 rotate_left
 ·rw[if_neg (of_eq_false c0)]at h0
  have c0':=of_eq_false c0;have hE:xU l=De l:=by unfold xU;rw[if_pos c0']
  have hR:Da l=[]:=by unfold Da;rw[hE,if_neg c0']
  rw[hE,hR];obtain⟨⟨e',τ',σ',nt',rd'⟩,g1,g2,g3,g4⟩:=h0
  simp only at g2 g3 g4
  subst g2
  (rw[uB (aD rfl),iN];simp(disch:=omega)only[aA,↓aa,seval,-List.reduceReplicate,reduceCtorEq,ae,rP,g1,g3,g4,aO])
 ·have c0':=of_eq_true c0
  rw[if_pos c0']at h0;have hw:=Zr c0'
  have he:(if(!l.isEmpty)=true then 2 else 0)=2∨cM l=[]:=by
   cases l with
   |nil=>exact .inr rfl
   |cons a l=>exact .inl rfl
  have h2:=ajV (if(!l.isEmpty)=true then 2 else 0) (cM l) he hw (by omega)
  have hE1:xU l=if Hi (cM l) (cM l) 0=true then 12 else if 16<jb (cM l)then 7 else 0:=by unfold xU;rw[if_neg (by simpa using c0')]
  have hvx:qU (dd nb (qS l))=cM l:=rfl;rw[hvx]at hc;simp only[Xd]at h2;have h1':al P rK [(7,.sl 0 0),(25,.p (.aM (l.map Term.row))),(26,.p (.int .i64 l.length)),(27,.p (.int .i64 0))] [.pv 0 [] false] 68 none=_:=h1;generalize qS l=A at *;have hln:∀(e:Nat) (K:List V2),OO [.gone,.pv e (K.map ay) false] (.sl 1 K.length)=some (.p (.int .i64 (K.length:Int))):=fun e K=>by simp[OO,bJ,aeu,AE.Obj.len]
  simp only[sY]at h2;cases hd:Hi (cM l) (cM l) 0 with
  |true=>
   have hE:xU l=12:=by rw[hE1,hd,if_pos rfl]
   have hR:Da l=[]:=by unfold Da;rw[hE,if_neg (by decide)]
   rw[hd,if_pos rfl]at h2;rw[hE,hR];obtain⟨⟨e',τ',σ',nt',rd'⟩,g1,g2,g3,g4⟩:=h2
   simp only at g2 g3 g4
   subst g2;generalize cM l=K at *
   (rw[uB (aD rfl),iN];simp(disch:=omega)only[aA,↓aa,seval,-List.reduceReplicate,reduceCtorEq,ae,rP,h0,fm,kY,aO,xD,h1',gK,hs,hc,hln,xE,g1,g3,g4])
  |false=>
   rw[hd,if_neg (by simp)]at h2
   rcases dB (16<jb (cM l))with c3|c3
   ·have hE:xU l=7:=by rw[hE1,hd,if_neg (by simp),if_pos (of_eq_true c3)]
    have hR:Da l=[]:=by unfold Da;rw[hE,if_neg (by decide)]
    rw[hE,hR];generalize cM l=K at *
    (rw[uB (aD rfl),iN];simp(disch:=omega)only[aA,↓aa,seval,-List.reduceReplicate,reduceCtorEq,ae,rP,h0,fm,kY,aO,xD,h1',gK,hs,hc,hln,xE,h2,gL,c3])
   ·have hE:xU l=0:=by rw[hE1,hd,if_neg (by simp),if_neg (of_eq_false c3)]
    have hR:Da l=cM l:=by unfold Da;rw[hE,if_pos rfl]
    rw[hE,hR];generalize cM l=K at *;have hpu:∀(d:Nat) (e:Nat),aG [.gone,.pv e (K.map ay) false] (d+1) (.sl 1 K.length)=some (.aM (K.map ay)):=fun d e=>by simp[aG]
    (rw[uB (aD rfl),iN];simp(disch:=omega)only[aA,↓aa,seval,-List.reduceReplicate,reduceCtorEq,ae,rP,h0,fm,kY,aO,xD,h1',gK,hs,hc,hln,xE,h2,gL,c3,hpu])
def VW(vs:List V2)(k:Nat):List AV:=[.p (.int .i64 (k:Int)),.p (.fn bT [.ptr [.int .i64 (k:Int)] 0,.ptr [.aM (vs.map ay)] 0])]
def QV(l:Nat)(vs:List V2)(s:ag)(k:Nat):ag ⊕ ag:=match round P l (VW vs k) s with
 |some (.p (.bool true),s')=>.inl s'
 |some (.p (.bool false),s')=>.inr s'
 |_=>.inl s
theorem Xm(l:Nat)(vs:List V2):∀(ks:List Nat) (i:Nat) (s:ag) (b:Bool) (s':ag),rounds P l (ks.map (VW vs)) s=some (b,s')→aq (fun _ s k=>QV l vs s k) i s ks=if b=true then .inl s' else .inr s'
 | [],i,s,b,s',h=>by
  simp only[Cb,rounds,bI,qX]at h;obtain⟨rfl,rfl⟩:=h;rfl
 |k::ks,i,s,b,s',h=>by
  rw[sP]at h;obtain⟨c,σ1,h1,h2,h3,h4⟩:=EI h;rw[aq];cases c with
  |true=>
   have:QV l vs s k=.inl σ1:=by unfold QV;rw[h1]
   rw[this];exact Xm l vs ks (i+1) σ1 b s' (h3 rfl)
  |false=>
   have:QV l vs s k=.inr σ1:=by unfold QV;rw[h1]
   obtain⟨rfl,rfl⟩:=h4 rfl;rw[this];rfl
abbrev apL(l:Nat)(vs:List V2)(m:Nat)(k:Int):List (Nat×AV):=[(0,.yield l),(2,.p (.ptr [.aM (vs.map ay)] 0)),(7,.p (.int .i64 (m:Int))),(8,.p (.int .i64 k))]
def ao8(s:ag)(r:Ex×St):Prop:=r.1=.ret∧r.2.σ=s
theorem agn(l:Nat)(vs:List V2)(n:Nat)(hn:n≤16)(σ σ':ag)(b:Bool)(h:rounds P l ((List.range (2^n)).map (VW vs)) σ=some (b,σ')) :
  call P et [.yield l,.p (.ptr [.int .i64 (n:Int)] 0),.p (.ptr [.aM (vs.map ay)] 0)] σ=some (.p (.jC []),σ'):=by
 have hp:(2:Nat)^n≤65536:=aa7 (show 0<2 by omega) hn
 have hfo:=Xm l vs (List.range (2^n)) 0 σ b σ' h
 have hlp:=cE (P:=P) (nt:=18) (lv:=[0,2,7,8]) (b:=eY) (rd:=none) (as:=List.range (2^n)) (fun i (_:ag)=>apL l vs (2^n) i) (fun s=>s) (fun _ s k=>QV l vs s k) ao8 (fun i s=>s.length=σ.length∧∃b s',rounds P l (((List.range (2^n)).drop i).map (VW vs)) s=some (b,s'))
  (fun i k s hk hi hs=>by
   obtain⟨hsl,b2,s2,hs⟩:=hs;rw[abU]at hi
   have hki:k=i:=by
    rw[abA hi]at hk;exact(abK hk).symm
   subst hki;have hlt:((k:Int)<((2^n:Nat):Int))=True:=by simp only[eq_iff_iff,iff_true];exact Int.ofNat_lt.2 hi
   have hd:(List.range (2^n)).drop k=k::(List.range (2^n)).drop (k+1):=by
    rw[abm (by simpa using hi)]
    simp
   rw[hd,sP]at hs;obtain⟨c,σ1,h1,h2,h3,h4⟩:=EI hs;have h1':sQ P (.yield l) (VW vs k) s=some (.p (.bool c),σ1):=by rw[sQ.eq_def];exact h1
   have gc2:∀v,gc s.length v σ1=σ1:=fun v=>eP (by omega)
   have hwr:IntKind.i64.wrap ((k:Int)+1)=((k+1:Nat):Int):=IntWalk.i64_in _ (by omega)
   simp only[VW]at h1';cases c with
   |true=>
    have hf:QV l vs s k=.inl σ1:=by unfold QV;rw[h1]
    refine⟨fun s' he=>?_,?_⟩
    ·rw[hf]at he
     cases he;exact⟨by omega,_,_,h3 rfl⟩
    ·rw[hf]
     simp only[eY];simp(disch:=omega)only[aA,↓aa,seval,-List.reduceReplicate,reduceCtorEq,ae,hlt,Fw,h1',gc2,hwr,apL]
   |false=>
    have hf:QV l vs s k=.inr σ1:=by unfold QV;rw[h1]
    refine⟨fun s' he=>?_,?_⟩
    ·rw[hf]at he
     cases he
    ·rw[hf]
     simp only[eY];simp(disch:=omega)only[aA,↓aa,seval,-List.reduceReplicate,reduceCtorEq,ae,hlt,Fw,h1',gc2,hwr,apL,ao8]) (fun i s=>rfl) σ ⟨rfl,b,σ',by rw[List.drop_zero];exact h⟩
 rw[hfo]at hlp;have hl3:=vV _ _ _ _ h;have gc3:∀vs,gc σ.length vs σ'=σ':=fun vs=>eP (by omega)
 have hsh:=apg (b:=n) hn;cases b with
 |true=>
  rw[if_pos rfl]at hlp;obtain⟨_,hlp⟩:=hlp;rw[abU]at hlp;have h':al P iI [(0,.yield l),(2,.p (.ptr [.aM (vs.map ay)] 0)),(7,.p (.int .i64 ((2^n:Nat):Int))),(8,.p (.int .i64 0))] σ 18 none=_:=hlp
  (rw[ft (aD rfl),et];simp(disch:=omega)only[aA,↓aa,seval,-List.reduceReplicate,reduceCtorEq,ae,hsh,ry,h',eY,kY,gc3])
 |false=>
  rw[if_neg (by simp)]at hlp
  obtain⟨⟨e,τ',σ2,nt',rd'⟩,g1,g2,g3⟩:=hlp
  simp only at g2 g3
  subst g2;subst g3;have h':al P iI [(0,.yield l),(2,.p (.ptr [.aM (vs.map ay)] 0)),(7,.p (.int .i64 ((2^n:Nat):Int))),(8,.p (.int .i64 0))] σ 18 none=_:=g1
  (rw[ft (aD rfl),et];simp(disch:=omega)only[aA,↓aa,seval,-List.reduceReplicate,reduceCtorEq,ae,hsh,ry,h',gc3])
abbrev apM(l:List V2)(s:List Bd×Nat)(i:Int):List (Nat×AV):=[(3,.sl 0 s.1.length),(4,.p (.int .u64 (s.2:Int))),(9,.p (.aM (l.map ay))),(10,.p (.int .i64 l.length)),(11,.p (.int .i64 i))]
theorem aqk{w n:Nat}(h:w≤16):n &&& (2^w-1)=n % 2^w:=Nat.and_two_pow_sub_one_eq_mod n w
theorem aut(l:List V2)(hw:∀v∈l,1≤v.w∧v.w≤16)(hl:l.length≤40)(n:Nat)(hn:n<65536):R P bT [.ptr [.int .i64 (n:Int)] 0,.ptr [.aM (l.map ay)] 0]=some (.aM ((fW n l).map V8)):=by
 obtain⟨_,h⟩:=ic (P:=P) (nt:=33) (lv:=[3,4,9,10,11]) (b:=fS) (rd:=none) (as:=l) (fun i (s:List Bd×Nat)=>apM l s i) sAs (fun _ s v=>asF s v) (fun i s=>s.1.length=i∧W s.2)
  (fun i v s hv hi hs=>by
   obtain⟨s,n⟩:=s;obtain⟨hs1,hs2⟩:=hs
   simp only at hs1 hs2
   have hlt:((i:Int)<l.length)=True:=by simpa using hi
   have hx:=fun σ=>aJ (k:=.i64) (es:=2) (σ:=σ) (ax (f:=ay) hv) (GO v)
   obtain⟨w1,w2⟩:=hw v (mi hv);have hwn:((v.w.toNat:Nat):Int)=v.w:=Int.toNat_of_nonneg (by omega)
   have hw16:v.w.toNat≤16:=by omega
   have hp:(2:Nat)^v.w.toNat≤65536:=aa7 (show 0<2 by omega) hw16
   have hpos:0<(2:Nat)^v.w.toNat:=Nc (by omega)
   have hcw:cw v.w=v.w.toNat:=by rw[←hwn,apK (by omega)];omega
   have hshr:=afy (k:=.i64) (a:=n) (n:=v.w.toNat) (by omega)
   rw[hwn]at hshr;have hshl:=afx (k:=.i64) (a:=1) (n:=v.w.toNat) (by omega)
   rw[hwn,Nat.one_mul,acm (by omega)]at hshl
   have hshl':cA .shl (.p (.int .u64 1)) (.p (.int .i64 v.w))=some (.p (.int .u64 ((2^v.w.toNat:Nat):Int))):=hshl;have hsub:IntKind.u64.wrap (((2^v.w.toNat:Nat):Int)-1)=((2^v.w.toNat-1:Nat):Int):=by rw[IntWalk.u64_in _ (by omega)];omega
   have hand:=ao7 (a:=n) (b:=2^v.w.toNat-1) hs2 (by omega)
   rw[aqk hw16]at hand;have hap:=dA (σ:=sAs (s,n)++[.pv 2 [[.str v.name,.int .u64 ((n % 2^cw v.w:Nat):Int)]] false]) (b:=0) (n:=s.length) (e:=lK 2 s) (es:=2) (bytes:=24) (rows:=s.map V8) (new:=[[.str v.name,.int .u64 ((n % 2^cw v.w:Nat):Int)]]) rfl (by simp) (qO _ _ _) (by simp only[lH,l5];omega)
   simp only[sAs,FD,x9]at hap;rw[hcw]at hap;refine⟨⟨by simp[asF,hs1],abg (abY _ _) hs2⟩,?_⟩
   simp only[fS,asF,hcw];simp(disch:=omega)only[aA,↓aa,seval,-List.reduceReplicate,reduceCtorEq,ae,hlt,hx,aO,Db,LL,LO,af1,af2,QG,QH,hshl',hsub,hand,avt,apC,aro,hap,hshr,BY,jE,jd,V8,apM,sAs]) (fun i s=>rfl) ([],n) ⟨rfl,by show n<_;omega⟩ _ (lU asF l 0 ([],n))
 have hA:=aeU l [] n;rw[x9]at hA;generalize l.foldl asF ([],n)=z at *;obtain⟨z1,z2⟩:=z
 simp only at hA
 subst hA;have h':al P kD [(3,.sl 0 0),(4,.p (.int .u64 (n:Int))),(9,.p (.aM (l.map ay))),(10,.p (.int .i64 l.length)),(11,.p (.int .i64 0))] [.pv 0 [] false] 33 none=_:=h;have hcv:IntKind.u64.wrap (n:Int)=n:=IntWalk.u64_in _ (by omega)
 (rw[zH (aD rfl),eN];simp(disch:=omega)only[aA,↓aa,seval,-List.reduceReplicate,reduceCtorEq,ae,hcv,y5,h',fS,kY,aO,apM,sAs])
theorem atl{s:Int}:Mm 1 0 0 1 false (some (.pv 1 [[.int .i64 s]] false))=some (.p (.int .i64 s)):=rfl
theorem auC{s t:Int}:RU [.pv 1 [[.int .i64 s]] false] 0 1 0 0 [.p (.int .i64 t)] (some (.pv 1 [[.int .i64 s]] false))=some [.pv 1 [[.int .i64 t]] false]:=rfl
theorem aqJ{s:Int}{x:PV}:aG [.pv 1 [[.int .i64 s]] false] 12 (.fn cg [.ptr 0 1 0 0,.p x])=some (.fn cg [.ptr [.int .i64 s] 0,x]):=by simp[aG,omap]
abbrev aoR(l:List V2)(i:Int):List (Nat×AV):=[(1,.p (.ptr [.aM (l.map ay)] 0)),(3,.ptr 0 1 0 0),(6,.p (.aM (l.map ay))),(7,.p (.int .i64 l.length)),(8,.p (.int .i64 i))]
theorem SE:∀(l:List V2) (i:Nat) (s:Int),aq (T:=Empty) (fun _ s (v:V2)=>.inl (s+v.w)) i s l=.inl (s+jb l)
 | [],i,s=>by simp[aq,jb]
 |v::l,i,s=>by
  rw[aq]
  simp only
  rw[SE l (i+1),jb,Int.add_assoc]
theorem RM(l:List V2)(hw:∀v∈l,tq v)(hl:l.length≤1000000000):R P ep [.aM (l.map ay)]=some (.fn cg [.ptr [.int .i64 (jb l)] 0,.ptr [.aM (l.map ay)] 0]):=by
 obtain⟨_,h⟩:=ic (P:=P) (nt:=18) (lv:=[1,3,6,7,8]) (b:=jL) (rd:=none) (as:=l) (fun i (_:Int)=>aoR l i) (fun s=>[.pv 1 [[.int .i64 s]] false]) (fun _ s v=>s+v.w) (fun i s=>0≤s∧s≤i*64)
  (fun i v s hv hi hs=>by
   obtain⟨s0,s1⟩:=hs;have hlt:((i:Int)<l.length)=True:=by simpa using hi
   have hx:=fun σ=>aJ (k:=.i64) (es:=2) (σ:=σ) (ax (f:=ay) hv) (GO v)
   have hok:=hw v (mi hv);unfold tq at hok;have hwr:IntKind.i64.wrap (s+v.w)=s+v.w:=IntWalk.i64_in _ (by omega)
   refine⟨⟨by omega,by omega⟩,?_⟩
   simp only[jL];simp(disch:=omega)only[aA,↓aa,seval,-List.reduceReplicate,reduceCtorEq,ae,hlt,hx,aO,Db,LL,LO,QG,QH,hwr,auA,ao2,atl,auC,aoR]) (fun i s=>rfl) 0 ⟨by omega,by omega⟩ _ (SE l 0 0)
 rw[Int.zero_add]at h;have h':al P nY [(1,.p (.ptr [.aM (l.map ay)] 0)),(3,.ptr 0 1 0 0),(6,.p (.aM (l.map ay))),(7,.p (.int .i64 l.length)),(8,.p (.int .i64 0))] [.pv 1 [[.int .i64 0]] false] 18 none=_:=h
 (rw[Dk (aD rfl),hU];simp(disch:=omega)only[aA,↓aa,seval,-List.reduceReplicate,reduceCtorEq,ae,Cs,h',jL,kY,aO,Uw,Fw,aqJ])
def R2(l:List V2):Prop:=∃a∈l,∃b∈l,a.name=b.name∧a.w≠b.w
def zS(l:List V2):Prop:=l.Pairwise fun a b=>nb a b=true
theorem EK:∀(l:List V2) (p:V2),GZ (p::l)→zS (p::zI p l)
 | [],p,_=>by simp[zI,zS]
 |a::r,p,h=>by
  have h1:=LQ.1 h;have h2:=LQ.1 h1.2;unfold zI;by_cases c:a.name=p.name∧a.w=p.w
  ·rw[if_pos c]
   exact EK r p (LQ.2 ⟨fun b hb=>h1.1 b (by simp[hb]),h2.2⟩)
  ·rw[if_neg c]
   have ih:=EK r a h1.2
   have hpa:nb p a=true:=by
    rcases H5 p a with h3|rfl|h3
    ·exact h3
    ·exact absurd ⟨rfl,rfl⟩ c
    ·rw[h1.1 a (by simp)]at h3;cases h3
   refine LQ.2 ⟨fun b hb=>?_,ih⟩
   rcases pn.1 hb with rfl|hb
   ·exact hpa
   ·exact y8 hpa ((LQ.1 ih).1 b hb)
theorem Uc{l:List V2}(h:GZ l):zS (qU l):=by
 cases l with
 |nil=>simp[qU,zS]
 |cons a r=>exact EK r a h
theorem CN(l:List Term):zS (cM l):=Uc (DK _)
theorem WY(K:List V2):∀(r:List V2) (i:Nat),K.drop i=r→(Hi K r i=true↔∃j,i≤j∧0<j∧∃u v,K[j-1]?=some u∧K[j]?=some v∧u.name=v.name)
 | [],i,h=>by
  have hl:K.length≤i:=List.drop_eq_nil_iff.1 h;simp only[Hi,kS,false_iff]
  rintro⟨j,h1,h2,u,v,h3,h4,h5⟩
  have:=(fU.1 h4).1;omega
 |w::r,i,h=>by
  have hi:i<K.length:=by
   have:=congrArg List.length h;simp at this;omega
  have hw:K[i]?=some w:=by
   have:=congrArg (·[0]?) h;simpa using this
  have hr:K.drop (i+1)=r:=by
   have:=congrArg (List.drop 1) h;simpa using this
  unfold Hi;rw[QN,WY K r (i+1) hr];constructor
  ·rintro(h1|⟨j,h1,h2,h3⟩)
   ·unfold Q9 at h1
    simp only[ud,decide_eq_true_eq]at h1;obtain⟨h1,h2⟩:=h1;cases hg:K[i-1]? with
    |none=>rw[hg]at h2;cases h2
    |some u=>
     rw[hg]at h2;exact⟨i,rm _,h1,u,w,hg,hw,by simpa using h2⟩
   ·exact⟨j,by omega,h2,h3⟩
  ·rintro⟨j,h1,h2,u,v,h3,h4,h5⟩
   by_cases e:j=i
   ·subst e
    left
    unfold Q9;rw[h3];rw[hw]at h4;cases h4;simp[h2,h5]
   ·exact .inr ⟨j,by omega,h2,u,v,h3,h4,h5⟩
theorem OT{a b:V2}(h:nb a b=true):slt b.name a.name=false:=by
 rcases(y7 a b).1 h with h|⟨h,_⟩
 ·exact rB h
 ·rw[h,gG]
theorem agF{K:List V2}(hs:zS K):Hi K K 0=true↔R2 K:=by
 rw[WY K K 0 rfl];constructor
 ·rintro⟨j,_,h2,u,v,h3,h4,h5⟩
  obtain⟨i1,e1⟩:=fU.1 h3;obtain⟨i2,e2⟩:=fU.1 h4;have h6:=abf.1 hs (j-1) j i1 i2 (by omega)
  rw[e1,e2]at h6;refine⟨u,mi h3,v,mi h4,h5,fun e=>?_⟩
  have:u=v:=QC h5 e;rw[this,Af]at h6;cases h6
 ·rintro⟨a,ha,b,hb,hn,hw⟩
  have main:∀(i j:Nat) (hi:i<K.length) (hj:j<K.length),i<j→K[i].name=K[j].name→∃j,0≤j∧0<j∧∃u v,K[j-1]?=some u∧K[j]?=some v∧u.name=v.name:=by
   intro i j hi hj hij h;have hi1:i+1<K.length:=by omega
   refine⟨i+1,by omega,by omega,K[i],K[i+1],by simp[hi],by simp[hi1],?_⟩
   have h1:=abf.1 hs i (i+1) hi hi1 (by omega)
   by_cases e:i+1=j
   ·subst e;exact h
   ·have h2:=abf.1 hs (i+1) j hi1 hj (by omega)
    have k1:=OT h1;have k2:=OT h2;rw[←h]at k2;rcases rU K[i].name K[i+1].name with h3|h3|h3
    ·rw[h3]at k2;cases k2
    ·exact h3
    ·rw[h3]at k1;cases k1
  obtain⟨i,hi,rfl⟩:=List.getElem_of_mem ha;obtain⟨j,hj,rfl⟩:=List.getElem_of_mem hb;rcases Nat.lt_trichotomy i j with c|c|c
  ·exact main i j hi hj c hn
  ·subst c;exact absurd rfl hw
  ·exact main j i hj hi c hn.symm
theorem Ks{a b:List V2}(h:∀x,x∈a↔x∈b):R2 a↔R2 b:=by
 constructor
 ·rintro⟨x,hx,y,hy,h1⟩;exact⟨x,(h x).1 hx,y,(h y).1 hy,h1⟩
 ·rintro⟨x,hx,y,hy,h1⟩;exact⟨x,(h x).2 hx,y,(h y).2 hy,h1⟩
theorem yA{l:List Term}{v:V2}:v∈cM l↔v∈qS l:=by
 unfold cM;rw[Sl,tc]
theorem amJ(l:List Term):Hi (cM l) (cM l) 0=true↔R2 (qS l):=by
 rw[agF (CN l)];exact Ks fun x=>yA
theorem O0{K:List V2}(hs:zS K)(hc:¬R2 K):dP K:=by
 refine abf.2 fun i j hi hj hij=>?_
 have h:=abf.1 hs i j hi hj hij;rcases(y7 _ _).1 h with h1|⟨h1,h2⟩
 ·exact h1
 ·exact absurd ⟨K[i],Zx _,K[j],Zx _,h1,by omega⟩ hc
theorem V5:∀(l:List V2) (n:Int),(∀v∈l,tq v)→(16<nB n l↔16<n+jb l)∧(n+jb l≤16→nB n l=n+jb l)
 | [],n,_=>by simp[nB,jb]
 |v::l,n,h=>by
  have hv:=h v (by simp)
  unfold tq at hv
  have hp:∀(l:List V2),(∀v∈l,tq v)→0≤jb l:=by
   intro l
   induction l with
   |nil=>intro _;simp[jb]
   |cons a l ih=>
    intro h;have:=h a (by simp)
    unfold tq at this;have:=ih (fun v hv=>h v (by simp[hv]))
    unfold jb;omega
  have hs:=hp l (fun v hv=>h v (by simp[hv]))
  unfold nB jb;by_cases c:n≤16
  ·rw[if_pos c]
   have:=V5 l (n+v.w) (fun v hv=>h v (by simp[hv]))
   rw[Int.add_assoc]at this;exact this
  ·rw[if_neg c]
   omega
theorem agl{l:List V2}(h:∀v∈l,tq v):(16<xe l↔16<jb l)∧(jb l≤16→xe l=jb l):=by
 have:=V5 l 0 h;rw[Int.zero_add]at this;unfold xe;omega
structure Good (l:List Term):Prop where
 chk:De l=0
 xM:¬R2 (qS l)
 bits:jb (cM l)≤16
theorem amT{l:List Term}(h:xU l=0):Good l:=by
 unfold xU at h;split at h
 ·rename_i c;exact absurd h c
 ·rename_i c
  have c':De l=0:=by simpa using c
  split at h
  ·cases h
  ·rename_i d
   split at h
   ·cases h
   ·rename_i b
    exact⟨c',fun hc=>d ((amJ l).2 hc),by omega⟩
theorem Good.ok{l:List Term}(h:Good l):∀v∈cM l,tq v:=Zr h.chk
theorem Good.sorted{l:List Term}(h:Good l):dP (cM l):=O0 (CN l) (fun c=>h.xM ((Ks fun x=>yA).1 c))
theorem Jc:∀{l:List V2},(∀v∈l,tq v)→(l.length:Int)≤jb l∧∀v∈l,v.w≤jb l
 | [],_=>by simp[jb]
 |a::l,h=>by
  have h1:=h a (by simp)
  unfold tq at h1;obtain⟨h2,h3⟩:=Jc (l:=l) (fun v hv=>h v (by simp[hv]))
  unfold jb;refine⟨by simp only[lH];omega,fun v hv=>?_⟩
  rcases pn.1 hv with rfl|hv
  ·omega
  ·have:=h3 v hv;omega
theorem Good.len{l:List Term}(h:Good l):(cM l).length≤16:=by
 have:=(Jc h.ok).1;have:=h.bits;omega
theorem Good.w16{l:List Term}(h:Good l):∀v∈cM l,1≤v.w∧v.w≤16:=fun v hv=>by
 have h1:=h.ok v hv;have h2:=(Jc h.ok).2 v hv;have:=h.bits;unfold tq at h1;omega
def Bi(l:List Term):Nat:=(jb (cM l)).toNat
theorem Good.ZQ{l:List Term}(h:Good l):Bi l≤16:=by unfold Bi;have:=h.bits;omega
theorem Good.sum{l:List Term}(h:Good l):jb (cM l)=(Bi l:Int):=by
 unfold Bi;have:=(Jc h.ok).1;omega
theorem Good.xe{l:List Term}(h:Good l):xe (cM l)=(Bi l:Int):=by rw[←h.sum];exact(agl h.ok).2 h.bits
theorem Qs:∀(r p:List V2),dP (p++r)→AR C9 p r=false
 | [],p,_=>rfl
 |u::r,p,h=>by
  unfold AR;have h1:dP ((p++[u])++r):=by simpa using h
  rw[Qs r (p++[u]) h1,Bool.or_false,ML];intro a ha;unfold C9;have h2:=(List.pairwise_append.1 h).2.2 a ha u (by simp)
  have h3:slt a.name u.name=true:=h2;simp only[decide_eq_true_eq];intro e;rw[e,gG]at h3;cases h3
theorem Good.bound{l:List Term}(h:Good l){t:Term}(ht:t∈l):rY t (cM l)=true:=by
 unfold rY;rw[Qs _ [] (by simpa using h.sorted)]
 have key:(nr t).any (fun u=>!((cM l).any fun a=>eqV a u))=false:=by
  rw[ML];intro u hu;have hm:u∈cM l:=BW.2 ⟨t,ht,hu⟩;have h2:((cM l).any fun a=>eqV a u)=true:=abB.2 ⟨u,hm,by simp[eqV]⟩
  rw[h2];simp
 rw[key];rfl
theorem Good.tab{l:List Term}(h:Good l){t:Term}(ht:t∈l):Fz t (cM l)=0:=by
 unfold Fz;rw[if_neg (by simpa using E2 h.chk t ht),if_neg (by rw[h.bound ht];simp)]
 have hb:(cM l).any LS=false:=by
  rw[ML];intro v hv;have:=h.ok v hv;unfold tq at this;simp only[LS,QN,decide_eq_true_eq];omega
 rw[hb,if_neg (by simp),if_neg (by rw[h.xe];have:=h.ZQ;omega)]
def Rs(x:List Nat):List PV:=[.aM (x.map CM)]
abbrev tvX(L:List Term)(t:Term):List Nat:=aeB t (cM L) (Bi L)
theorem akj{L:List Term}(hg:Good L){t:Term}(hm:t∈L)(ht:ia t)(hc:t.count≤1000000):R P lL [.agg t.row,.aM ((cM L).map ay)]=some (.jC [.aM ((tvX L t).map CM),.int .i64 0]):=by
 have h:=anf t ht hc (cM L) (by have:=hg.len;omega) (Bi L) (fun _=>⟨hg.xe,hg.ZQ⟩)
 unfold aeC at h;rw[if_pos (hg.tab hm)]at h;exact h
theorem asI{r:List (List PV)}:kU σ 1 1 (gz (List.replicate 1 [.aC]).flatten [(0,1,.p (.aM r))])=some (.sl σ.length 1,σ++[.pv 1 [[.aM r]] false]):=rfl
theorem an8{o:Obj}{a:List PV}{fr:Bool}:nn [o,.pv 1 [a] fr] 1 (.sl 1 1)=some (.inl [a]):=EN rfl rfl (.inl rfl)
abbrev ai4(vs:List V2)(l:List Term)(s:List (List Nat))(i:Int):List (Nat×AV):=[(0,.p (.aM (vs.map ay))),(5,.sl 0 s.length),(10,.p (.aM (l.map Term.row))),(11,.p (.int .i64 l.length)),(12,.p (.int .i64 i))]
abbrev sTb(s:List (List Nat)):ag:=[.pv (lK 1 s) (s.map Rs) false]
theorem alg(L:List Term)(hg:Good L)(hT:∀t∈L,ia t∧t.count≤1000000)(l:List Term)(hl:∀t∈l,t∈L)(hn:l.length≤100):R P fE [.aM ((cM L).map ay),.aM (l.map Term.row)]=some (.aM ((l.map (tvX L)).map Rs)):=by
 obtain⟨_,h⟩:=ic (P:=P) (nt:=28) (lv:=[0,5,10,11,12]) (b:=oZ) (rd:=none) (as:=l) (fun i (s:List (List Nat))=>ai4 (cM L) l s i) sTb (fun _ s t=>s++[tvX L t]) (fun i s=>s.length=i)
  (fun i t s hv hi hs=>by
   have hlt:((i:Int)<l.length)=True:=by simpa using hi
   have hx:=fun σ=>aJ (k:=.i64) (es:=5) (σ:=σ) (ax (f:=Term.row) hv) t.aB
   have hm:=hl t (mi hv);have hTb:=akj hg hm (hT t hm).1 (hT t hm).2;have hap:=dA (σ:=sTb s++[.pv 1 [[.aM ((tvX L t).map CM)]] false]) (b:=0) (n:=s.length) (e:=lK 1 s) (es:=1) (bytes:=24) (rows:=s.map Rs) (new:=[[.aM ((tvX L t).map CM)]]) rfl (by simp) (qO _ _ _) (by simp only[lH,l5];omega)
   simp only[sTb,FD,x9]at hap;refine⟨by simp[hs],?_⟩
   simp only[oZ];generalize tvX L t=V at *;generalize cM L=K at *;simp(disch:=omega)only[aA,↓aa,seval,-List.reduceReplicate,reduceCtorEq,ae,hlt,hx,aO,UW,hTb,asI,an8,hap,BY,jE,jd,Rs,ai4,sTb]) (fun i s=>rfl) [] rfl _ (yt (tvX L) l 0 [])
 rw[x9]at h;have h':al P tY [(0,.p (.aM ((cM L).map ay))),(5,.sl 0 0),(10,.p (.aM (l.map Term.row))),(11,.p (.int .i64 l.length)),(12,.p (.int .i64 0))] [.pv 0 [] false] 28 none=_:=h;have hP:∀(k e:Nat) (s:List (List Nat)),aG [.pv e (s.map Rs) false] (k+1) (.sl 0 s.length)=some (.aM (s.map Rs)):=fun k e s=>by simp[aG]
 generalize l.map (tvX L)=S at *;generalize cM L=K at *
 (rw[J7 (aD rfl),mP];simp(disch:=omega)only[aA,↓aa,seval,-List.reduceReplicate,reduceCtorEq,ae,HJ,h',oZ,kY,aO,hP,ai4,sTb])
end Go.AE.S
