import Derived.Test.YtpccheodgonkkaaGreatC0
import Derived.Test.YtpccheodgonkkaaGreatD1
import Derived.Test.YtpccheodgonkkaaGreatD2
set_option maxHeartbeats 0
set_option linter.unusedSimpArgs false
set_option linter.unusedVariables false
namespace Go.AE.S
open Go Go.AE
def ml(a b:V2):Bool:=slt a.name b.name ||(a.name.toList == b.name.toList && decide (a.w<b.w))
theorem KZ(a b:V2):P9 (au a) (au b)=ml a b:=rfl
theorem xQ(a:V2):ml a a=false:=by simp[ml,gq]
theorem afM{a b:ByteArray}(h:a.toList=b.toList):a=b:=by
 rcases qJ a b with h1|h1|h1
 ·unfold slt at h1;rw[h]at h1
  have:=gq b;unfold slt at this;rw[this]at h1;cases h1
 ·exact h1
 ·unfold slt at h1;rw[h]at h1
  have:=gq b;unfold slt at this;rw[this]at h1;cases h1
theorem w5(a b:V2):ml a b=true↔slt a.name b.name=true∨(a.name=b.name∧a.w<b.w):=by
 unfold ml;simp only[OZ,yE,beq_iff_eq,decide_eq_true_eq];exact or_congr Iff.rfl (and_congr ⟨afM,fun h=>by rw[h]⟩ Iff.rfl)
theorem E1(a b:V2):ml a b=true∨a=b∨ml b a=true:=by
 rcases qJ a.name b.name with h|h|h
 ·exact .inl ((w5 a b).2 (.inl h))
 ·rcases Int.lt_trichotomy a.w b.w with h2|h2|h2
  ·exact .inl ((w5 a b).2 (.inr ⟨h,h2⟩))
  ·exact .inr (.inl (by cases a;cases b;simp only at h h2;rw[h,h2]))
  ·exact .inr (.inr ((w5 b a).2 (.inr ⟨h.symm,h2⟩)))
 ·exact .inr (.inr ((w5 b a).2 (.inl h)))
theorem w6{a b c:V2}(h1:ml a b=true)(h2:ml b c=true):ml a c=true:=by
 rw[w5]at *;rcases h1 with h1|⟨e1,h1⟩<;>rcases h2 with h2|⟨e2,h2⟩
 ·exact .inl (ry h1 h2)
 ·exact .inl (e2 ▸ h1)
 ·exact .inl (e1 ▸ h2)
 ·exact .inr ⟨e1.trans e2,by omega⟩
theorem ZD{a b:V2}(h:ml a b=true):ml b a=false:=by
 cases hb:ml b a with
 |false=>rfl
 |true=>have:=w6 h hb;rw[xQ]at this;cases this
theorem On{α:Type}(lt:α→α→Bool)(x:α):∀l:List α,(AO lt x l).Perm (x::l)
 | []=>.refl _
 |y::r=>by
  unfold AO;split
  ·exact((On lt x r).cons y).trans (.swap x y r)
  ·exact .refl _
theorem zP{α:Type}(lt:α→α→Bool):∀l:List α,(cW lt l).Perm l
 | []=>.refl _
 |x::r=>(On lt x (cW lt r)).trans ((zP lt r).cons x)
def Eb(l:List V2):Prop:=l.Pairwise fun a b=>ml b a=false
theorem KN{x:V2}:∀{l:List V2},Eb l→Eb (AO ml x l)
 | [],_=>by simp[AO,Eb]
 |z::r,hs=>by
  have hs':=IY.1 hs;unfold AO;split
  ·rename_i hzx
   refine IY.2 ⟨fun b hb=>?_,KN hs'.2⟩
   rcases EF.1 hb with rfl|hb
   ·exact ZD hzx
   ·exact hs'.1 b hb
  ·rename_i hzx
   refine IY.2 ⟨fun b hb=>?_,hs⟩
   rcases qL.1 hb with rfl|hb
   ·simpa using hzx
   ·cases hbx:ml b x with
    |false=>rfl
    |true=>
     exfalso;have h1:=hs'.1 b hb;rcases E1 b z with h|rfl|h
     ·rw[h]at h1;cases h1
     ·exact hzx hbx
     ·exact hzx (w6 h hbx)
theorem Bc:∀l:List V2,Eb (cW ml l)
 | []=>by simp[cW,Eb]
 |x::r=>KN (Bc r)
theorem W9{l m:List V2}(hl:Eb l)(hm:Eb m)(hp:l.Perm m):l=m :=
 List.Perm.eq_of_pairwise (fun a b _ _ h1 h2=>by
  rcases E1 a b with h|h|h
  ·rw[h2]at h;cases h
  ·exact h
  ·rw[h1]at h;cases h) hl hm hp
def xA(p:V2):List V2→List V2
 | []=>[]
 |a::r=>if a.name=p.name∧a.w=p.w then xA p r else a::xA a r
def pV:List V2→List V2
 | []=>[]
 |a::r=>a::xA a r
theorem Mq{a b:V2}(h1:a.name=b.name)(h2:a.w=b.w):a=b:=by cases a;cases b;simp only at h1 h2;rw[h1,h2]
theorem Sn(a b:V2):oV.eqVW (au a) (au b)=true↔a=b:=by
 show(a.name.toList == b.name.toList && decide (a.w=b.w))=true↔_
 simp only[yE,beq_iff_eq,decide_eq_true_eq];exact⟨fun h=>Mq (afM h.1) h.2,fun h=>by rw[h];exact⟨rfl,rfl⟩⟩
theorem MZ(a:V2):∀r:List V2,oV ((a::r).map au)=(a::xA a r).map au:=by
 intro r
 induction r generalizing a with
 |nil=>rfl
 |cons b r ih=>
  have e:oV ((a::b::r).map au)=if oV.eqVW (au a) (au b)then oV ((b::r).map au)else au a::oV ((b::r).map au):=rfl
  rw[e,ih b];by_cases h:a=b
  ·subst h
   rw[if_pos ((Sn a a).2 rfl)];simp[xA]
  ·rw[if_neg (fun x=>h ((Sn a b).1 x))]
   have:¬(b.name=a.name∧b.w=a.w):=fun x=>h (Mq x.1.symm x.2.symm)
   simp[xA,this]
theorem Em:∀l:List V2,oV (l.map au)=(pV l).map au
 | []=>rfl
 |a::r=>MZ a r
variable {τ:Tm} {σ:ae} {rd:Option Nat}
def AL:List Term→Int
 | []=>0
 |t::r=>if gO t=0 then AL r else gO t
theorem Sy:∀(l:List Term) (i:Nat),aq (S:=Unit) (T:=Int) (fun _ _ t=>if gO t=0 then .inl ()else .inr (gO t)) i () l=if AL l=0 then .inl ()else .inr (AL l)
 | [],i=>rfl
 |t::l,i=>by
  unfold aq AL;by_cases h:gO t=0
  ·simp only[h,if_true]
   exact Sy l (i+1)
  ·simp only[h,if_false]
def Wb(e:Int)(r:Ex×St):Prop:=r.1=.ret∧r.2.τ.get 2=.aF∧r.2.τ.get 3=.p (.int .i64 e)
abbrev VM(l:List Term)(i:Int):List (Nat×AV):=[(0,.p (.aW (l.map Term.row))),(13,.p (.aW (l.map Term.row))),(14,.p (.int .i64 l.length)),(15,.p (.int .i64 i))]
theorem ad8(l:List Term)(ht:∀t∈l,iM t∧t.count≤1000000)(hl:l.length≤1000):if AL l=0 then an P qt (VM l 0) [] 68 none=back P [0,13,14,15] fc 0 (exec P fc ⟨tm (VM l l.length),[],68,none⟩)else ∃r,an P qt (VM l 0) [] 68 none=some r∧Wb (AL l) r:=by
 have h:=cS (P:=P) (nt:=68) (lv:=[0,13,14,15]) (b:=fc) (rd:=none) (as:=l) (fun k (_:Unit)=>VM l k) (fun _=>[]) (fun _ _ t=>if gO t=0 then .inl ()else .inr (gO t)) Wb (fun _ _=>True)
  (fun i t s hv hi hs=>by
   refine⟨fun _ _=>trivial,?_⟩
   have hlt:((i:Int)<l.length)=True:=by simpa using hi
   have hx:=fun σ=>aU (k:=.i64) (es:=5) (σ:=σ) (ax (f:=Term.row) hv) t.aH
   obtain⟨h1,h2⟩:=ht t (mK hv);have hk:=FP t h1 h2;rcases fC (gO t=0)with c|c
   ·simp only[fc,of_eq_true c,if_true]
    rw[of_eq_true c]at hk;simp(disch:=omega)only[aG,↓aa,seval,-List.reduceReplicate,reduceCtorEq,af,hlt,hx,bz,lj,hk,VM,Wb]
   ·simp only[fc,c,if_false]
    simp(disch:=omega)only[aG,↓aa,seval,-List.reduceReplicate,reduceCtorEq,af,hlt,hx,bz,lj,hk,c,VM,Wb]) (fun i s=>rfl) () trivial
 rw[Sy]at h;by_cases hb:AL l=0
 ·rw[if_pos hb]at h;rw[if_pos hb];exact h.2
 ·rw[if_neg hb]at h;rw[if_neg hb];exact h
def pU(l:List Term):List V2:=l.flatMap mC
abbrev sX(s:Bool×List V2):ae:=[.pv (if s.1=true then 2 else 0) (s.2.map au) false]
abbrev ads(l:List Term)(s:Bool×List V2)(i:Int):List (Nat×AV):=[(7,.sl 0 s.2.length),(25,.p (.aW (l.map Term.row))),(26,.p (.int .i64 l.length)),(27,.p (.int .i64 i))]
theorem Ky:∀(l:List Term) (i:Nat) (s:Bool×List V2),aq (T:=Empty) (fun _ (s:Bool×List V2) t=>.inl (true,s.2++mC t)) i s l=.inl (if l=[]then s else(true,s.2++pU l))
 | [],i,s=>rfl
 |t::l,i,s=>by
  rw[aq]
  simp only
  rw[Ky l (i+1)];cases l with
  |nil=>simp[pU]
  |cons b l=>simp[pU]
theorem alZ(l:List V2):wide 2 (l.map au)=true:=by
 simp[wide,au]
theorem aeb(l:List Term)(ht:∀t∈l,t.count≤1000000)(hl:l.length≤1000):an P qy (ads l (false,[]) 0) (sX (false,[])) 68 none=back P [7,25,26,27] gz 1 (exec P gz ⟨tm (ads l (!l.isEmpty,pU l) l.length),sX (!l.isEmpty,pU l),68,none⟩):=by
 obtain⟨_,h⟩:=jj (P:=P) (nt:=68) (lv:=[7,25,26,27]) (b:=gz) (rd:=none) (as:=l) (fun i (s:Bool×List V2)=>ads l s i) sX (fun _ s t=>(true,s.2++mC t)) (fun i s=>s.2.length≤i*1000000∧(s.1=false→s.2=[]))
  (fun i t s hv hi hs=>by
   obtain⟨f,s⟩:=s;obtain⟨h1,h2⟩:=hs
   simp only at h1 h2
   have hlt:((i:Int)<l.length)=True:=by simpa using hi
   have hx:=fun σ=>aU (k:=.i64) (es:=5) (σ:=σ) (ax (f:=Term.row) hv) t.aH
   have hc:=ht t (mK hv);have hV:=Ia t hc;have hn:=Mt t;have hsp:=fun σ=>OQ (σ:=σ) (alZ (mC t))
   have hi2:i*1000000≤1000*1000000:=Jn _ (by omega)
   have hap:=eZ (σ:=sX (f,s)) (b:=0) (n:=s.length) (e:=if f=true then 2 else 0) (es:=2) (bytes:=24) (rows:=s.map au) (new:=(mC t).map au) rfl (by simp) (by cases f with|true=>exact .inl rfl|false=>exact .inr ⟨rfl,by rw[h2 rfl];rfl⟩) (by rw[bz];omega)
   simp only[sX]at hap;refine⟨⟨by simp only[mh];omega,fun h=>by cases h⟩,?_⟩
   simp only[gz];generalize mC t=V at *;simp(disch:=omega)only[aG,↓aa,seval,-List.reduceReplicate,reduceCtorEq,af,hlt,hx,bz,u5,hV,hsp,hap,Ed,mh,ads,sX]) (fun i s=>rfl) (false,[]) ⟨by simp,fun _=>rfl⟩ _ (Ky l 0 (false,[]))
 cases l with
 |nil=>exact h
 |cons a l=>exact h
theorem ano{K:List V2}{v:V2}{m i:Nat}{fr:Bool}(h:K[i]?=some v)(hn:K.length=m):KS m i 0 2 true (some (.pv 2 (K.map au) fr))=some (.p (.agg (au v))):=by
 have hi:=(gu.1 h).1;have h2:=(gu.1 h).2;simp[KS,hn,h2,h];rfl
theorem ann{K:List V2}{v:V2}{m i:Nat}{fr:Bool}(h:K[i]?=some v)(hn:K.length=m):KS m i 0 1 false (some (.pv 2 (K.map au) fr))=some (.p (.str v.name)):=by
 have hi:=(gu.1 h).1;have h2:=(gu.1 h).2;simp[KS,hn,h2,h];rfl
def MX(K:List V2)(i:Nat)(v:V2):Bool:=decide (0<i) && (match K[i-1]? with|some u=>decide (u.name=v.name)|none=>false)
theorem DI{n:Nat}:AE.Obj.below n .gone=true:=rfl
def Eo(K:List V2):List V2→Nat→Bool
 | [],_=>false
 |v::r,i=>MX K i v ||Eo K r (i+1)
def iK:List V2→Int
 | []=>0
 |v::r=>v.w+iK r
def Ue(K:List V2)(i:Nat)(s:Int)(v:V2):Int ⊕ Unit:=if MX K i v=true then .inr ()else .inl (s+v.w)
theorem KD(K:List V2):∀(l:List V2) (i:Nat) (s:Int),aq (Ue K) i s l=if Eo K l i=true then .inr ()else .inl (s+iK l)
 | [],i,s=>by simp[aq,Eo,iK]
 |v::l,i,s=>by
  rw[aq];unfold Ue Eo;by_cases h:MX K i v=true
  ·rw[if_pos h,h];simp
  ·rw[if_neg h]
   have h':MX K i v=false:=by simpa using h
   rw[h'];simp only[NW];have:=KD K l (i+1) (s+v.w);unfold Ue at this;rw[this,iK,Int.add_assoc]
abbrev Sk(K:List V2)(s i:Int):List (Nat×AV):=[(7,.sl 1 K.length),(10,.p (.int .i64 s)),(40,.sl 1 K.length),(41,.p (.int .i64 K.length)),(42,.p (.int .i64 i))]
abbrev sY(e:Nat)(K:List V2):ae:=[.gone,.pv e (K.map au) false]
theorem acZ{o o1:Obj}:rY 2 (aT [.p (.str (bs [])),.p (.int .i64 0)] [o,o1])=some (.ptr 2 1 0 0,[o,o1,.pv 2 [[.str (bs []),.int .i64 0]] false]):=rfl
theorem aed(e:Nat)(K:List V2)(he:e=2∨K=[])(hw:∀v∈K,rC v)(hl:K.length≤1000000000):if Eo K K 0=true then ∃r,an P qA (Sk K 0 0) (sY e K) 68 none=some r∧Wb 12 r else an P qA (Sk K 0 0) (sY e K) 68 none=back P [7,10,40,41,42] gB 2 (exec P gB ⟨tm (Sk K (iK K) K.length),sY e K,68,none⟩):=by
 have h:=cS (P:=P) (nt:=68) (lv:=[7,10,40,41,42]) (b:=gB) (rd:=none) (as:=K) (fun i (s:Int)=>Sk K s i) (fun _=>sY e K) (Ue K) (fun(_:Unit)=>Wb 12) (fun i s=>0≤s∧s≤i*64)
  (fun i v s hv hi hs=>by
   obtain⟨s0,s1⟩:=hs
   have he2:e=2:=by
    rcases he with h|h
    ·exact h
    ·rw[h]at hv;cases hv
   subst he2;have hok:=hw v (mK hv);unfold rC at hok;have hlt:((i:Int)<K.length)=True:=by simpa using hi
   have hia:jd (sY 2 K) 2 (.sl 1 K.length) (.p (.int .i64 i))=some (.ptr 1 K.length i 0):=XQ rfl (by simp) hi
   have hld:=ano (m:=K.length) (fr:=false) hv rfl;have hwr:IntKind.i64.wrap (s+v.w)=s+v.w:=IntWalk.i64_in _ (by omega)
   unfold Ue;refine⟨fun s' he=>?_,?_⟩
   ·by_cases hc:MX K i v=true
    ·rw[if_pos hc]at he;cases he
    ·rw[if_neg hc]at he
     cases he;exact⟨by omega,by omega⟩
   cases i with
   |zero=>
    have h0:((0:Int) > 0)=False:=by simp
    have hz:MX K 0 v=false:=rfl;have h01:IntKind.i64.wrap 1=1:=IntWalk.i64_in _ (by omega)
    simp only[gB,hz,nh,if_false];simp only[sY,Int.natCast_zero]at hia hlt;simp(disch:=omega)only[aG,↓aa,seval,-List.reduceReplicate,reduceCtorEq,af,hlt,hia,hld,acZ,afI,SY,SZ,hwr,h0,h01,DI,Sk,sY]
   |succ j=>
    have hj:j<K.length:=by omega
    have Q3:(((j+1:Nat):Int) > 0)=True:=by simp only[eq_iff_iff,iff_true];omega
    have hjm:IntKind.i64.wrap (((j+1:Nat):Int)-1)=(j:Int):=by rw[IntWalk.i64_in _ (by omega)];omega
    obtain⟨u,hu⟩:∃u,K[j]?=some u:=⟨_,oh hj⟩;have hia2:=fun(o:Obj)=>(XQ (σ:=[.gone,.pv 2 (K.map au) false,o]) (b:=1) (m:=K.length) (es:=2) (j:=j) (fr:=false) rfl (by simp) hj:jd _ 2 (.sl 1 K.length) (.p (.int .i64 j))=_)
    have hls:=ann (m:=K.length) (fr:=false) hu rfl
    have hz:MX K (j+1) v=decide (u.name=v.name):=by
     unfold MX;rw[show j+1-1=j from rfl,hu];simp
    simp only[sY]at hia;simp only[gB,hz];rcases fC (u.name=v.name)with hn|hn
    ·simp only[hn,decide_true,if_true]
     rw[of_eq_true hn]at hls;simp(disch:=omega)only[aG,↓aa,seval,-List.reduceReplicate,reduceCtorEq,af,hlt,hia,hld,acZ,afI,SY,SZ,Q3,hjm,hia2,hls,DI,Sk,sY,Wb]
    ·simp only[hn,decide_false,nh,if_false]
     simp(disch:=omega)only[aG,↓aa,seval,-List.reduceReplicate,reduceCtorEq,af,hlt,hia,hld,acZ,afI,SY,SZ,hwr,Q3,hjm,hia2,hls,hn,DI,Sk,sY]) (fun i s=>rfl) 0 ⟨by omega,by omega⟩
 rw[KD]at h;cases hb:Eo K K 0 with
 |true=>rw[hb,if_pos rfl]at h;rw[if_pos rfl];exact h
 |false=>rw[hb,if_neg (by simp),Int.zero_add]at h;rw[if_neg (by simp)];exact h.2
theorem aoT{u:Term}(h:sj u=0)(h1:u.op=1):1≤u.w∧u.w≤64:=by
 have hn:=X4 h;refine⟨hn.w,?_⟩;have hw:=hn.wd;have ha:=hn.ar.1;rw[h1]at hw ha;have hz:arity 1=0:=by decide
 unfold cG at hw;split at hw
 ·have:=congrArg Prod.snd hw;simp at this
 ·split at hw
  ·have:=congrArg Prod.snd hw;simp at this
  ·have hw2:wZ 1 u.w u.v=(u.w,0):=hw
   unfold wZ at hw2;split at hw2
   ·have:=congrArg Prod.snd hw2;simp at this
   ·omega
theorem afT{t:Term}(h:gO t=0):∀v∈mC t,rC v:=by
 intro v hv;obtain⟨u,hu,h1,rfl⟩:=Yp hv;exact aoT (((J3 t).1 h).2.2.1 u hu) h1
theorem Cm:∀{l:List Term},AL l=0→∀t∈l,gO t=0
 | [],_,t,ht=>by simp at ht
 |a::l,h,t,ht=>by
  unfold AL at h;by_cases h1:gO a=0
  ·rw[if_pos h1]at h
   rcases qL.1 ht with rfl|ht
   ·exact h1
   ·exact Cm h t ht
  ·rw[if_neg h1]at h;exact absurd h h1
theorem L5:∀(l:List V2) (p v:V2),(v∈xA p l→v∈l)∧(v∈l→v∈xA p l∨v=p)
 | [],p,v=>by simp[xA]
 |a::r,p,v=>by
  unfold xA;split
  ·rename_i h
   have e:a=p:=Mq h.1 h.2;obtain⟨i1,i2⟩:=L5 r p v;refine⟨fun hm=>abn _ (i1 hm),fun hm=>?_⟩
   rcases qL.1 hm with rfl|hm
   ·exact .inr e
   ·exact i2 hm
  ·obtain⟨i1,i2⟩:=L5 r a v
   refine⟨fun hm=>?_,fun hm=>?_⟩
   ·rcases qL.1 hm with rfl|hm
    ·simp
    ·exact abn _ (i1 hm)
   ·rcases qL.1 hm with rfl|hm
    ·exact .inl (by simp)
    ·rcases i2 hm with h2|rfl
     ·exact .inl (abn _ h2)
     ·exact .inl (by simp)
theorem N9{l:List V2}{v:V2}:v∈pV l↔v∈l:=by
 cases l with
 |nil=>rfl
 |cons a r=>
  unfold pV;obtain⟨i1,i2⟩:=L5 r a v;refine⟨fun hm=>?_,fun hm=>?_⟩
  ·rcases qL.1 hm with rfl|hm
   ·simp
   ·exact abn _ (i1 hm)
  ·rcases qL.1 hm with rfl|hm
   ·simp
   ·rcases i2 hm with h2|rfl
    ·exact abn _ h2
    ·simp
theorem ZX(l:List V2):∀p,(xA p l).length≤l.length:=by
 induction l with
 |nil=>intro p;simp[xA]
 |cons a r ih=>intro p;unfold xA;split;exact Nat.le_succ_of_le (ih p);simp[ih a]
theorem Vw(l:List V2):(pV l).length≤l.length:=by cases l with|nil=>simp[pV]|cons a r=>simp[pV,ZX]
def cH(l:List Term):List V2:=pV (cW ml (pU l))
theorem zr{l:List Term}{v:V2}:v∈cH l↔∃t∈l,v∈mC t:=by
 unfold cH pU;rw[N9,rp,Mz]
theorem Uu{l:List Term}(h:AL l=0):∀v∈cH l,rC v:=by
 intro v hv;obtain⟨t,ht,hv⟩:=zr.1 hv;exact afT (Cm h t ht) v hv
theorem Gc:∀{l:List Term} (n:Nat),(∀t∈l,t.count≤n)→(pU l).length≤l.length*n
 | [],n,_=>by simp[pU]
 |t::l,n,h=>by
  have h1:=Gc (l:=l) n (fun a ha=>h a (abn _ ha))
  have h2:=UO (Mt t) (h t (by simp))
  show(mC t++pU l).length≤(l.length+1)*n
  rw[mh,acd];omega
theorem acx{l:List Term}(n:Nat)(h:∀t∈l,t.count≤n):(cH l).length≤l.length*n :=
 UO (Vw _) (by rw[(zP ml (pU l)).length_eq];exact Gc n h)
theorem agF(f:Bool)(l:List V2)(hf:f=false→l=[])(hl:l.length≤1000000000):kV P a7 [.sl 0 l.length,.p (.fn cM [])] (sX (f,l))=some (.p (.jO []),sX (f,cW ml l)):=by
 rw[kz]
 have h1:uZ 2 dI V7 S5 [.sl 0 l.length,.p (.fn cM [])] (sX (f,l))=none:=by
  have hne:¬cM=dI:=by decide
  simp only[uZ,if_neg hne]
 have h2:zf 2 cM V7 P9 [.sl 0 l.length,.p (.fn cM [])] (sX (f,l))=some (.p (.jO []),sX (f,cW ml l)):=by
  simp only[zf,sX,if_true,NX];rw[if_pos ⟨by simp,by omega,by cases f with|true=>exact .inr rfl|false=>exact .inl (by rw[hf rfl];rfl),O1 l⟩]
  simp only[aa9,tp KZ]
 unfold wm;rw[h1,h2];rfl
theorem YE(f:Bool)(l:List V2)(hf:f=false→l=[])(hl:l.length≤1000000000):kV P cy [.sl 0 l.length] (sX (f,l))=some (.sl 1 (pV l).length,[.gone,.pv (if f=true then 2 else 0) ((pV l).map au) false]):=by
 rw[sv];simp only[uX,sX,NX];rw[if_pos ⟨by simp,by omega,by cases f with|true=>exact .inr rfl|false=>exact .inl (by rw[hf rfl];rfl),O1 l⟩]
 simp only[Em,bz,oi,pN,aa9,Ec,yK]
def vN(l:List Term):Int:=if ¬AL l=0 then AL l else if Eo (cH l) (cH l) 0=true then 12 else if 16<iK (cH l)then 7 else 0
def AH(l:List Term):List V2:=if vN l=0 then cH l else[]
theorem Ma(l:List Term)(ht:∀t∈l,iM t∧t.count≤1000000)(hl:l.length≤1000):R P j3 [.aW (l.map Term.row)]=some (.jO [.aW ((AH l).map au),.int .i64 (vN l)]):=by
 have h0:=ad8 l ht hl;have h1:=aeb l (fun t h=>(ht t h).2) hl
 have hlen:=Gc (l:=l) 1000000 (fun t h=>(ht t h).2)
 have hl2:l.length*1000000≤1000*1000000:=Jn _ hl;have hK:=acx (l:=l) 1000000 (fun t h=>(ht t h).2)
 have hf:(!l.isEmpty)=false→pU l=[]:=fun h=>by
  cases l with
  |nil=>rfl
  |cons a l=>cases h
 have hs:=agF (!l.isEmpty) (pU l) hf (by omega)
 have hil:(cW ml (pU l)).length=(pU l).length:=(zP ml (pU l)).length_eq;have hc:=YE (!l.isEmpty) (cW ml (pU l)) (fun h=>by rw[hf h];rfl) (by rw[hil];omega)
 rw[hil]at hc;simp only[VM]at h0;simp only[ads]at h1;rcases fC (AL l=0)with c0|c0
 rotate_left
 ·rw[if_neg (of_eq_false c0)]at h0
  have c0':=of_eq_false c0;have hE:vN l=AL l:=by unfold vN;rw[if_pos c0']
  have hR:AH l=[]:=by unfold AH;rw[hE,if_neg c0']
  rw[hE,hR];obtain⟨⟨e',τ',σ',nt',rd'⟩,g1,g2,g3,g4⟩:=h0
  simp only at g2 g3 g4
  subst g2
  (rw[sx (aO rfl),iw];simp(disch:=omega)only[aG,↓aa,seval,-List.reduceReplicate,reduceCtorEq,af,qD,g1,g3,g4,bz])
 ·have c0':=of_eq_true c0
  rw[if_pos c0']at h0;have hw:=Uu c0'
  have he:(if(!l.isEmpty)=true then 2 else 0)=2∨cH l=[]:=by
   cases l with
   |nil=>exact .inr rfl
   |cons a l=>exact .inl rfl
  have h2:=aed (if(!l.isEmpty)=true then 2 else 0) (cH l) he hw (by omega)
  have hE1:vN l=if Eo (cH l) (cH l) 0=true then 12 else if 16<iK (cH l)then 7 else 0:=by unfold vN;rw[if_neg (by simpa using c0')]
  have hvx:pV (cW ml (pU l))=cH l:=rfl;rw[hvx]at hc;simp only[Sk]at h2;have h1':an P qy [(7,.sl 0 0),(25,.p (.aW (l.map Term.row))),(26,.p (.int .i64 l.length)),(27,.p (.int .i64 0))] [.pv 0 [] false] 68 none=_:=h1;generalize pU l=A at *;have hln:∀(e:Nat) (K:List V2),KU [.gone,.pv e (K.map au) false] (.sl 1 K.length)=some (.p (.int .i64 (K.length:Int))):=fun e K=>by simp[KU,bV,W5,AE.Obj.len]
  simp only[sY]at h2;cases hd:Eo (cH l) (cH l) 0 with
  |true=>
   have hE:vN l=12:=by rw[hE1,hd,if_pos rfl]
   have hR:AH l=[]:=by unfold AH;rw[hE,if_neg (by decide)]
   rw[hd,if_pos rfl]at h2;rw[hE,hR];obtain⟨⟨e',τ',σ',nt',rd'⟩,g1,g2,g3,g4⟩:=h2
   simp only at g2 g3 g4
   subst g2;generalize cH l=K at *
   (rw[sx (aO rfl),iw];simp(disch:=omega)only[aG,↓aa,seval,-List.reduceReplicate,reduceCtorEq,af,qD,h0,fc,pD,bz,vp,h1',gz,hs,hc,hln,vq,g1,g3,g4])
  |false=>
   rw[hd,if_neg (by simp)]at h2
   rcases fC (16<iK (cH l))with c3|c3
   ·have hE:vN l=7:=by rw[hE1,hd,if_neg (by simp),if_pos (of_eq_true c3)]
    have hR:AH l=[]:=by unfold AH;rw[hE,if_neg (by decide)]
    rw[hE,hR];generalize cH l=K at *
    (rw[sx (aO rfl),iw];simp(disch:=omega)only[aG,↓aa,seval,-List.reduceReplicate,reduceCtorEq,af,qD,h0,fc,pD,bz,vp,h1',gz,hs,hc,hln,vq,h2,gB,c3])
   ·have hE:vN l=0:=by rw[hE1,hd,if_neg (by simp),if_neg (of_eq_false c3)]
    have hR:AH l=cH l:=by unfold AH;rw[hE,if_pos rfl]
    rw[hE,hR];generalize cH l=K at *;have hpu:∀(d:Nat) (e:Nat),az [.gone,.pv e (K.map au) false] (d+1) (.sl 1 K.length)=some (.aW (K.map au)):=fun d e=>by simp[az]
    (rw[sx (aO rfl),iw];simp(disch:=omega)only[aG,↓aa,seval,-List.reduceReplicate,reduceCtorEq,af,qD,h0,fc,pD,bz,vp,h1',gz,hs,hc,hln,vq,h2,gB,c3,hpu])
def Rh(vs:List V2)(k:Nat):List AV:=[.p (.int .i64 (k:Int)),.p (.fn bO [.ptr [.int .i64 (k:Int)] 0,.ptr [.aW (vs.map au)] 0])]
def MF(l:Nat)(vs:List V2)(s:ae)(k:Nat):ae ⊕ ae:=match round P l (Rh vs k) s with
 |some (.p (.bool true),s')=>.inl s'
 |some (.p (.bool false),s')=>.inr s'
 |_=>.inl s
theorem Sw(l:Nat)(vs:List V2):∀(ks:List Nat) (i:Nat) (s:ae) (b:Bool) (s':ae),rounds P l (ks.map (Rh vs)) s=some (b,s')→aq (fun _ s k=>MF l vs s k) i s ks=if b=true then .inl s' else .inr s'
 | [],i,s,b,s',h=>by
  simp only[CU,rounds,bL,pY]at h;obtain⟨rfl,rfl⟩:=h;rfl
 |k::ks,i,s,b,s',h=>by
  rw[ue]at h;obtain⟨c,σ1,h1,h2,h3,h4⟩:=B8 h;rw[aq];cases c with
  |true=>
   have:MF l vs s k=.inl σ1:=by unfold MF;rw[h1]
   rw[this];exact Sw l vs ks (i+1) σ1 b s' (h3 rfl)
  |false=>
   have:MF l vs s k=.inr σ1:=by unfold MF;rw[h1]
   obtain⟨rfl,rfl⟩:=h4 rfl;rw[this];rfl
abbrev ajW(l:Nat)(vs:List V2)(m:Nat)(k:Int):List (Nat×AV):=[(0,.yield l),(2,.p (.ptr [.aW (vs.map au)] 0)),(7,.p (.int .i64 (m:Int))),(8,.p (.int .i64 k))]
def aja(s:ae)(r:Ex×St):Prop:=r.1=.ret∧r.2.σ=s
theorem YF(l:Nat)(vs:List V2)(n:Nat)(hn:n≤16)(σ σ':ae)(b:Bool)(h:rounds P l ((List.range (2^n)).map (Rh vs)) σ=some (b,σ')) :
  call P ef [.yield l,.p (.ptr [.int .i64 (n:Int)] 0),.p (.ptr [.aW (vs.map au)] 0)] σ=some (.p (.jO []),σ'):=by
 have hp:(2:Nat)^n≤65536:=aa4 (show 0<2 by omega) hn
 have hfo:=Sw l vs (List.range (2^n)) 0 σ b σ' h
 have hlp:=cS (P:=P) (nt:=18) (lv:=[0,2,7,8]) (b:=eR) (rd:=none) (as:=List.range (2^n)) (fun i (_:ae)=>ajW l vs (2^n) i) (fun s=>s) (fun _ s k=>MF l vs s k) aja (fun i s=>s.length=σ.length∧∃b s',rounds P l (((List.range (2^n)).drop i).map (Rh vs)) s=some (b,s'))
  (fun i k s hk hi hs=>by
   obtain⟨hsl,b2,s2,hs⟩:=hs;rw[abY]at hi
   have hki:k=i:=by
    rw[abr hi]at hk;exact(abA hk).symm
   subst hki;have hlt:((k:Int)<((2^n:Nat):Int))=True:=by simp only[eq_iff_iff,iff_true];exact Int.ofNat_lt.2 hi
   have hd:(List.range (2^n)).drop k=k::(List.range (2^n)).drop (k+1):=by
    rw[abc (by simpa using hi)]
    simp
   rw[hd,ue]at hs;obtain⟨c,σ1,h1,h2,h3,h4⟩:=B8 hs;have h1':rk P (.yield l) (Rh vs k) s=some (.p (.bool c),σ1):=by rw[rk.eq_def];exact h1
   have gc2:∀v,gc s.length v σ1=σ1:=fun v=>eH (by omega)
   have hwr:IntKind.i64.wrap ((k:Int)+1)=((k+1:Nat):Int):=IntWalk.i64_in _ (by omega)
   simp only[Rh]at h1';cases c with
   |true=>
    have hf:MF l vs s k=.inl σ1:=by unfold MF;rw[h1]
    refine⟨fun s' he=>?_,?_⟩
    ·rw[hf]at he
     cases he;exact⟨by omega,_,_,h3 rfl⟩
    ·rw[hf]
     simp only[eR];simp(disch:=omega)only[aG,↓aa,seval,-List.reduceReplicate,reduceCtorEq,af,hlt,CM,h1',gc2,hwr,ajW]
   |false=>
    have hf:MF l vs s k=.inr σ1:=by unfold MF;rw[h1]
    refine⟨fun s' he=>?_,?_⟩
    ·rw[hf]at he
     cases he
    ·rw[hf]
     simp only[eR];simp(disch:=omega)only[aG,↓aa,seval,-List.reduceReplicate,reduceCtorEq,af,hlt,CM,h1',gc2,hwr,ajW,aja]) (fun i s=>rfl) σ ⟨rfl,b,σ',by rw[List.drop_zero];exact h⟩
 rw[hfo]at hlp;have hl3:=tJ _ _ _ _ h;have gc3:∀vs,gc σ.length vs σ'=σ':=fun vs=>eH (by omega)
 have hsh:=ajj (b:=n) hn;cases b with
 |true=>
  rw[if_pos rfl]at hlp;obtain⟨_,hlp⟩:=hlp;rw[abY]at hlp;have h':an P il [(0,.yield l),(2,.p (.ptr [.aW (vs.map au)] 0)),(7,.p (.int .i64 ((2^n:Nat):Int))),(8,.p (.int .i64 0))] σ 18 none=_:=hlp
  (rw[fh (aO rfl),ef];simp(disch:=omega)only[aG,↓aa,seval,-List.reduceReplicate,reduceCtorEq,af,hsh,qm,h',eR,pD,gc3])
 |false=>
  rw[if_neg (by simp)]at hlp
  obtain⟨⟨e,τ',σ2,nt',rd'⟩,g1,g2,g3⟩:=hlp
  simp only at g2 g3
  subst g2;subst g3;have h':an P il [(0,.yield l),(2,.p (.ptr [.aW (vs.map au)] 0)),(7,.p (.int .i64 ((2^n:Nat):Int))),(8,.p (.int .i64 0))] σ 18 none=_:=g1
  (rw[fh (aO rfl),ef];simp(disch:=omega)only[aG,↓aa,seval,-List.reduceReplicate,reduceCtorEq,af,hsh,qm,h',gc3])
abbrev ajX(l:List V2)(s:List Bd×Nat)(i:Int):List (Nat×AV):=[(3,.sl 0 s.1.length),(4,.p (.int .u64 (s.2:Int))),(9,.p (.aW (l.map au))),(10,.p (.int .i64 l.length)),(11,.p (.int .i64 i))]
theorem aks{w n:Nat}(h:w≤16):n &&& (2^w-1)=n % 2^w:=Nat.and_two_pow_sub_one_eq_mod n w
theorem aoi(l:List V2)(hw:∀v∈l,1≤v.w∧v.w≤16)(hl:l.length≤40)(n:Nat)(hn:n<65536):R P bO [.ptr [.int .i64 (n:Int)] 0,.ptr [.aW (l.map au)] 0]=some (.aW ((fN n l).map Rs)):=by
 obtain⟨_,h⟩:=jj (P:=P) (nt:=33) (lv:=[3,4,9,10,11]) (b:=fI) (rd:=none) (as:=l) (fun i (s:List Bd×Nat)=>ajX l s i) sAs (fun _ s v=>asF s v) (fun i s=>s.1.length=i∧W s.2)
  (fun i v s hv hi hs=>by
   obtain⟨s,n⟩:=s;obtain⟨hs1,hs2⟩:=hs
   simp only at hs1 hs2
   have hlt:((i:Int)<l.length)=True:=by simpa using hi
   have hx:=fun σ=>aU (k:=.i64) (es:=2) (σ:=σ) (ax (f:=au) hv) (D6 v)
   obtain⟨w1,w2⟩:=hw v (mK hv);have hwn:((v.w.toNat:Nat):Int)=v.w:=Int.toNat_of_nonneg (by omega)
   have hw16:v.w.toNat≤16:=by omega
   have hp:(2:Nat)^v.w.toNat≤65536:=aa4 (show 0<2 by omega) hw16
   have hpos:0<(2:Nat)^v.w.toNat:=MA (by omega)
   have hcw:cw v.w=v.w.toNat:=by rw[←hwn,ajV (by omega)];omega
   have hshr:=X3 (k:=.i64) (a:=n) (n:=v.w.toNat) (by omega)
   rw[hwn]at hshr;have hshl:=X2 (k:=.i64) (a:=1) (n:=v.w.toNat) (by omega)
   rw[hwn,Nat.one_mul,acj (by omega)]at hshl
   have hshl':cu .shl (.p (.int .u64 1)) (.p (.int .i64 v.w))=some (.p (.int .u64 ((2^v.w.toNat:Nat):Int))):=hshl;have hsub:IntKind.u64.wrap (((2^v.w.toNat:Nat):Int)-1)=((2^v.w.toNat-1:Nat):Int):=by rw[IntWalk.u64_in _ (by omega)];omega
   have hand:=ai9 (a:=n) (b:=2^v.w.toNat-1) hs2 (by omega)
   rw[aks hw16]at hand;have hap:=eZ (σ:=sAs (s,n)++[.pv 2 [[.str v.name,.int .u64 ((n % 2^cw v.w:Nat):Int)]] false]) (b:=0) (n:=s.length) (e:=mD 2 s) (es:=2) (bytes:=24) (rows:=s.map Rs) (new:=[[.str v.name,.int .u64 ((n % 2^cw v.w:Nat):Int)]]) rfl (by simp) (r9 _ _ _) (by simp only[oi,pN];omega)
   simp only[sAs,Ec,yK]at hap;rw[hcw]at hap;refine⟨⟨by simp[asF,hs1],abk (abZ _ _) hs2⟩,?_⟩
   simp only[fI,asF,hcw];simp(disch:=omega)only[aG,↓aa,seval,-List.reduceReplicate,reduceCtorEq,af,hlt,hx,bz,AI,Ie,Ih,Yq,Yr,Mu,Mv,hshl',hsub,hand,apg,ajN,alv,hap,hshr,Ed,mh,kE,Rs,ajX,sAs]) (fun i s=>rfl) ([],n) ⟨rfl,by show n<_;omega⟩ _ (jH asF l 0 ([],n))
 have hA:=Xu l [] n;rw[yK]at hA;generalize l.foldl asF ([],n)=z at *;obtain⟨z1,z2⟩:=z
 simp only at hA
 subst hA;have h':an P jW [(3,.sl 0 0),(4,.p (.int .u64 (n:Int))),(9,.p (.aW (l.map au))),(10,.p (.int .i64 l.length)),(11,.p (.int .i64 0))] [.pv 0 [] false] 33 none=_:=h;have hcv:IntKind.u64.wrap (n:Int)=n:=IntWalk.u64_in _ (by omega)
 (rw[xz (aO rfl),eF];simp(disch:=omega)only[aG,↓aa,seval,-List.reduceReplicate,reduceCtorEq,af,hcv,wX,h',fI,pD,bz,ajX,sAs])
theorem anm{s:Int}:KS 1 0 0 1 false (some (.pv 1 [[.int .i64 s]] false))=some (.p (.int .i64 s)):=rfl
theorem aos{s t:Int}:QQ [.pv 1 [[.int .i64 s]] false] 0 1 0 0 [.p (.int .i64 t)] (some (.pv 1 [[.int .i64 s]] false))=some [.pv 1 [[.int .i64 t]] false]:=rfl
theorem akR{s:Int}{x:PV}:az [.pv 1 [[.int .i64 s]] false] 12 (.fn b8 [.ptr 0 1 0 0,.p x])=some (.fn b8 [.ptr [.int .i64 s] 0,x]):=by simp[az,omap]
abbrev aiV(l:List V2)(i:Int):List (Nat×AV):=[(1,.p (.ptr [.aW (l.map au)] 0)),(3,.ptr 0 1 0 0),(6,.p (.aW (l.map au))),(7,.p (.int .i64 l.length)),(8,.p (.int .i64 i))]
theorem Ol:∀(l:List V2) (i:Nat) (s:Int),aq (T:=Empty) (fun _ s (v:V2)=>.inl (s+v.w)) i s l=.inl (s+iK l)
 | [],i,s=>by simp[aq,iK]
 |v::l,i,s=>by
  rw[aq]
  simp only
  rw[Ol l (i+1),iK,Int.add_assoc]
theorem NC(l:List V2)(hw:∀v∈l,rC v)(hl:l.length≤1000000000):R P dY [.aW (l.map au)]=some (.fn b8 [.ptr [.int .i64 (iK l)] 0,.ptr [.aW (l.map au)] 0]):=by
 obtain⟨_,h⟩:=jj (P:=P) (nt:=18) (lv:=[1,3,6,7,8]) (b:=jo) (rd:=none) (as:=l) (fun i (_:Int)=>aiV l i) (fun s=>[.pv 1 [[.int .i64 s]] false]) (fun _ s v=>s+v.w) (fun i s=>0≤s∧s≤i*64)
  (fun i v s hv hi hs=>by
   obtain⟨s0,s1⟩:=hs;have hlt:((i:Int)<l.length)=True:=by simpa using hi
   have hx:=fun σ=>aU (k:=.i64) (es:=2) (σ:=σ) (ax (f:=au) hv) (D6 v)
   have hok:=hw v (mK hv);unfold rC at hok;have hwr:IntKind.i64.wrap (s+v.w)=s+v.w:=IntWalk.i64_in _ (by omega)
   refine⟨⟨by omega,by omega⟩,?_⟩
   simp only[jo];simp(disch:=omega)only[aG,↓aa,seval,-List.reduceReplicate,reduceCtorEq,af,hlt,hx,bz,AI,Ie,Ih,Mu,Mv,hwr,aoq,ai4,anm,aos,aiV]) (fun i s=>rfl) 0 ⟨by omega,by omega⟩ _ (Ol l 0 0)
 rw[Int.zero_add]at h;have h':an P ng [(1,.p (.ptr [.aW (l.map au)] 0)),(3,.ptr 0 1 0 0),(6,.p (.aW (l.map au))),(7,.p (.int .i64 l.length)),(8,.p (.int .i64 0))] [.pv 1 [[.int .i64 0]] false] 18 none=_:=h
 (rw[AQ (aO rfl),gQ];simp(disch:=omega)only[aG,↓aa,seval,-List.reduceReplicate,reduceCtorEq,af,zQ,h',jo,pD,bz,PW,CM,akR])
def NT(l:List V2):Prop:=∃a∈l,∃b∈l,a.name=b.name∧a.w≠b.w
def xE(l:List V2):Prop:=l.Pairwise fun a b=>ml a b=true
theorem Ca:∀(l:List V2) (p:V2),Eb (p::l)→xE (p::xA p l)
 | [],p,_=>by simp[xA,xE]
 |a::r,p,h=>by
  have h1:=IY.1 h;have h2:=IY.1 h1.2;unfold xA;by_cases c:a.name=p.name∧a.w=p.w
  ·rw[if_pos c]
   exact Ca r p (IY.2 ⟨fun b hb=>h1.1 b (by simp[hb]),h2.2⟩)
  ·rw[if_neg c]
   have ih:=Ca r a h1.2
   have hpa:ml p a=true:=by
    rcases E1 p a with h3|rfl|h3
    ·exact h3
    ·exact absurd ⟨rfl,rfl⟩ c
    ·rw[h1.1 a (by simp)]at h3;cases h3
   refine IY.2 ⟨fun b hb=>?_,ih⟩
   rcases qL.1 hb with rfl|hb
   ·exact hpa
   ·exact w6 hpa ((IY.1 ih).1 b hb)
theorem PC{l:List V2}(h:Eb l):xE (pV l):=by
 cases l with
 |nil=>simp[pV,xE]
 |cons a r=>exact Ca r a h
theorem Aj(l:List Term):xE (cH l):=PC (Bc _)
theorem R9(K:List V2):∀(r:List V2) (i:Nat),K.drop i=r→(Eo K r i=true↔∃j,i≤j∧0<j∧∃u v,K[j-1]?=some u∧K[j]?=some v∧u.name=v.name)
 | [],i,h=>by
  have hl:K.length≤i:=List.drop_eq_nil_iff.1 h;simp only[Eo,nh,false_iff]
  rintro⟨j,h1,h2,u,v,h3,h4,h5⟩
  have:=(gu.1 h4).1;omega
 |w::r,i,h=>by
  have hi:i<K.length:=by
   have:=congrArg List.length h;simp at this;omega
  have hw:K[i]?=some w:=by
   have:=congrArg (·[0]?) h;simpa using this
  have hr:K.drop (i+1)=r:=by
   have:=congrArg (List.drop 1) h;simpa using this
  unfold Eo;rw[OZ,R9 K r (i+1) hr];constructor
  ·rintro(h1|⟨j,h1,h2,h3⟩)
   ·unfold MX at h1
    simp only[yE,decide_eq_true_eq]at h1;obtain⟨h1,h2⟩:=h1;cases hg:K[i-1]? with
    |none=>rw[hg]at h2;cases h2
    |some u=>
     rw[hg]at h2;exact⟨i,qj _,h1,u,w,hg,hw,by simpa using h2⟩
   ·exact⟨j,by omega,h2,h3⟩
  ·rintro⟨j,h1,h2,u,v,h3,h4,h5⟩
   by_cases e:j=i
   ·subst e
    left
    unfold MX;rw[h3];rw[hw]at h4;cases h4;simp[h2,h5]
   ·exact .inr ⟨j,by omega,h2,u,v,h3,h4,h5⟩
theorem KY{a b:V2}(h:ml a b=true):slt b.name a.name=false:=by
 rcases(w5 a b).1 h with h|⟨h,_⟩
 ·exact sH h
 ·rw[h,gq]
theorem YW{K:List V2}(hs:xE K):Eo K K 0=true↔NT K:=by
 rw[R9 K K 0 rfl];constructor
 ·rintro⟨j,_,h2,u,v,h3,h4,h5⟩
  obtain⟨i1,e1⟩:=gu.1 h3;obtain⟨i2,e2⟩:=gu.1 h4;have h6:=aa7.1 hs (j-1) j i1 i2 (by omega)
  rw[e1,e2]at h6;refine⟨u,mK h3,v,mK h4,h5,fun e=>?_⟩
  have:u=v:=Mq h5 e;rw[this,xQ]at h6;cases h6
 ·rintro⟨a,ha,b,hb,hn,hw⟩
  have main:∀(i j:Nat) (hi:i<K.length) (hj:j<K.length),i<j→K[i].name=K[j].name→∃j,0≤j∧0<j∧∃u v,K[j-1]?=some u∧K[j]?=some v∧u.name=v.name:=by
   intro i j hi hj hij h;have hi1:i+1<K.length:=by omega
   refine⟨i+1,by omega,by omega,K[i],K[i+1],by simp[hi],by simp[hi1],?_⟩
   have h1:=aa7.1 hs i (i+1) hi hi1 (by omega)
   by_cases e:i+1=j
   ·subst e;exact h
   ·have h2:=aa7.1 hs (i+1) j hi1 hj (by omega)
    have k1:=KY h1;have k2:=KY h2;rw[←h]at k2;rcases qJ K[i].name K[i+1].name with h3|h3|h3
    ·rw[h3]at k2;cases k2
    ·exact h3
    ·rw[h3]at k1;cases k1
  obtain⟨i,hi,rfl⟩:=List.getElem_of_mem ha;obtain⟨j,hj,rfl⟩:=List.getElem_of_mem hb;rcases Nat.lt_trichotomy i j with c|c|c
  ·exact main i j hi hj c hn
  ·subst c;exact absurd rfl hw
  ·exact main j i hj hi c hn.symm
theorem Ha{a b:List V2}(h:∀x,x∈a↔x∈b):NT a↔NT b:=by
 constructor
 ·rintro⟨x,hx,y,hy,h1⟩;exact⟨x,(h x).1 hx,y,(h y).1 hy,h1⟩
 ·rintro⟨x,hx,y,hy,h1⟩;exact⟨x,(h x).2 hx,y,(h y).2 hy,h1⟩
theorem wv{l:List Term}{v:V2}:v∈cH l↔v∈pU l:=by
 unfold cH;rw[N9,rp]
theorem agU(l:List Term):Eo (cH l) (cH l) 0=true↔NT (pU l):=by
 rw[YW (Aj l)];exact Ha fun x=>wv
theorem K4{K:List V2}(hs:xE K)(hc:¬NT K):eL K:=by
 refine aa7.2 fun i j hi hj hij=>?_
 have h:=aa7.1 hs i j hi hj hij;rcases(w5 _ _).1 h with h1|⟨h1,h2⟩
 ·exact h1
 ·exact absurd ⟨K[i],UJ _,K[j],UJ _,h1,by omega⟩ hc
theorem Ro:∀(l:List V2) (n:Int),(∀v∈l,rC v)→(16<mL n l↔16<n+iK l)∧(n+iK l≤16→mL n l=n+iK l)
 | [],n,_=>by simp[mL,iK]
 |v::l,n,h=>by
  have hv:=h v (by simp)
  unfold rC at hv
  have hp:∀(l:List V2),(∀v∈l,rC v)→0≤iK l:=by
   intro l
   induction l with
   |nil=>intro _;simp[iK]
   |cons a l ih=>
    intro h;have:=h a (by simp)
    unfold rC at this;have:=ih (fun v hv=>h v (by simp[hv]))
    unfold iK;omega
  have hs:=hp l (fun v hv=>h v (by simp[hv]))
  unfold mL iK;by_cases c:n≤16
  ·rw[if_pos c]
   have:=Ro l (n+v.w) (fun v hv=>h v (by simp[hv]))
   rw[Int.add_assoc]at this;exact this
  ·rw[if_neg c]
   omega
theorem YD{l:List V2}(h:∀v∈l,rC v):(16<uM l↔16<iK l)∧(iK l≤16→uM l=iK l):=by
 have:=Ro l 0 h;rw[Int.zero_add]at this;unfold uM;omega
structure Good (l:List Term):Prop where
 chk:AL l=0
 ac9:¬NT (pU l)
 bits:iK (cH l)≤16
theorem ag4{l:List Term}(h:vN l=0):Good l:=by
 unfold vN at h;split at h
 ·rename_i c;exact absurd h c
 ·rename_i c
  have c':AL l=0:=by simpa using c
  split at h
  ·cases h
  ·rename_i d
   split at h
   ·cases h
   ·rename_i b
    exact⟨c',fun hc=>d ((agU l).2 hc),by omega⟩
theorem Good.ok{l:List Term}(h:Good l):∀v∈cH l,rC v:=Uu h.chk
theorem Good.sorted{l:List Term}(h:Good l):eL (cH l):=K4 (Aj l) (fun c=>h.ac9 ((Ha fun x=>wv).1 c))
theorem FW:∀{l:List V2},(∀v∈l,rC v)→(l.length:Int)≤iK l∧∀v∈l,v.w≤iK l
 | [],_=>by simp[iK]
 |a::l,h=>by
  have h1:=h a (by simp)
  unfold rC at h1;obtain⟨h2,h3⟩:=FW (l:=l) (fun v hv=>h v (by simp[hv]))
  unfold iK;refine⟨by simp only[oi];omega,fun v hv=>?_⟩
  rcases qL.1 hv with rfl|hv
  ·omega
  ·have:=h3 v hv;omega
theorem Good.len{l:List Term}(h:Good l):(cH l).length≤16:=by
 have:=(FW h.ok).1;have:=h.bits;omega
theorem Good.w16{l:List Term}(h:Good l):∀v∈cH l,1≤v.w∧v.w≤16:=fun v hv=>by
 have h1:=h.ok v hv;have h2:=(FW h.ok).2 v hv;have:=h.bits;unfold rC at h1;omega
def yO(l:List Term):Nat:=(iK (cH l)).toNat
theorem Good.UY{l:List Term}(h:Good l):yO l≤16:=by unfold yO;have:=h.bits;omega
theorem Good.sum{l:List Term}(h:Good l):iK (cH l)=(yO l:Int):=by
 unfold yO;have:=(FW h.ok).1;omega
theorem Good.uM{l:List Term}(h:Good l):uM (cH l)=(yO l:Int):=by rw[←h.sum];exact(YD h.ok).2 h.bits
theorem Mi:∀(r p:List V2),eL (p++r)→yq AF p r=false
 | [],p,_=>rfl
 |u::r,p,h=>by
  unfold yq;have h1:eL ((p++[u])++r):=by simpa using h
  rw[Mi r (p++[u]) h1,Bool.or_false,Uw];intro a ha;unfold AF;have h2:=(List.pairwise_append.1 h).2.2 a ha u (by simp)
  have h3:slt a.name u.name=true:=h2;simp only[decide_eq_true_eq];intro e;rw[e,gq]at h3;cases h3
theorem Good.bound{l:List Term}(h:Good l){t:Term}(ht:t∈l):qM t (cH l)=true:=by
 unfold qM;rw[Mi _ [] (by simpa using h.sorted)]
 have key:(mC t).any (fun u=>!((cH l).any fun a=>eqV a u))=false:=by
  rw[Uw];intro u hu;have hm:u∈cH l:=zr.2 ⟨t,ht,hu⟩;have h2:((cH l).any fun a=>eqV a u)=true:=abT.2 ⟨u,hm,by simp[eqV]⟩
  rw[h2];simp
 rw[key];rfl
theorem Good.tab{l:List Term}(h:Good l){t:Term}(ht:t∈l):CQ t (cH l)=0:=by
 unfold CQ;rw[if_neg (by simpa using Cm h.chk t ht),if_neg (by rw[h.bound ht];simp)]
 have hb:(cH l).any Ij=false:=by
  rw[Uw];intro v hv;have:=h.ok v hv;unfold rC at this;simp only[Ij,OZ,decide_eq_true_eq];omega
 rw[hb,if_neg (by simp),if_neg (by rw[h.uM];have:=h.UY;omega)]
def Nf(x:List Nat):List PV:=[.aW (x.map Ai)]
abbrev tvX(L:List Term)(t:Term):List Nat:=Xc t (cH L) (yO L)
theorem aez{L:List Term}(hg:Good L){t:Term}(hm:t∈L)(ht:iM t)(hc:t.count≤1000000):R P kW [.agg t.row,.aW ((cH L).map au)]=some (.jO [.aW ((tvX L t).map Ai),.int .i64 0]):=by
 have h:=ahm t ht hc (cH L) (by have:=hg.len;omega) (yO L) (fun _=>⟨hg.uM,hg.UY⟩)
 unfold Xd at h;rw[if_pos (hg.tab hm)]at h;exact h
theorem amL{r:List (List PV)}:kU σ 1 1 (gK (List.replicate 1 [.aF]).flatten [(0,1,.p (.aW r))])=some (.sl σ.length 1,σ++[.pv 1 [[.aW r]] false]):=rfl
theorem aib{o:Obj}{a:List PV}{fr:Bool}:mB [o,.pv 1 [a] fr] 1 (.sl 1 1)=some (.inl [a]):=Cf rfl rfl (.inl rfl)
abbrev adp(vs:List V2)(l:List Term)(s:List (List Nat))(i:Int):List (Nat×AV):=[(0,.p (.aW (vs.map au))),(5,.sl 0 s.length),(10,.p (.aW (l.map Term.row))),(11,.p (.int .i64 l.length)),(12,.p (.int .i64 i))]
abbrev sTb(s:List (List Nat)):ae:=[.pv (mD 1 s) (s.map Nf) false]
theorem afv(L:List Term)(hg:Good L)(hT:∀t∈L,iM t∧t.count≤1000000)(l:List Term)(hl:∀t∈l,t∈L)(hn:l.length≤100):R P fp [.aW ((cH L).map au),.aW (l.map Term.row)]=some (.aW ((l.map (tvX L)).map Nf)):=by
 obtain⟨_,h⟩:=jj (P:=P) (nt:=28) (lv:=[0,5,10,11,12]) (b:=om) (rd:=none) (as:=l) (fun i (s:List (List Nat))=>adp (cH L) l s i) sTb (fun _ s t=>s++[tvX L t]) (fun i s=>s.length=i)
  (fun i t s hv hi hs=>by
   have hlt:((i:Int)<l.length)=True:=by simpa using hi
   have hx:=fun σ=>aU (k:=.i64) (es:=5) (σ:=σ) (ax (f:=Term.row) hv) t.aH
   have hm:=hl t (mK hv);have hTb:=aez hg hm (hT t hm).1 (hT t hm).2;have hap:=eZ (σ:=sTb s++[.pv 1 [[.aW ((tvX L t).map Ai)]] false]) (b:=0) (n:=s.length) (e:=mD 1 s) (es:=1) (bytes:=24) (rows:=s.map Nf) (new:=[[.aW ((tvX L t).map Ai)]]) rfl (by simp) (r9 _ _ _) (by simp only[oi,pN];omega)
   simp only[sTb,Ec,yK]at hap;refine⟨by simp[hs],?_⟩
   simp only[om];generalize tvX L t=V at *;generalize cH L=K at *;simp(disch:=omega)only[aG,↓aa,seval,-List.reduceReplicate,reduceCtorEq,af,hlt,hx,bz,Qk,hTb,amL,aib,hap,Ed,mh,kE,Nf,adp,sTb]) (fun i s=>rfl) [] rfl _ (yV (tvX L) l 0 [])
 rw[yK]at h;have h':an P rS [(0,.p (.aW ((cH L).map au))),(5,.sl 0 0),(10,.p (.aW (l.map Term.row))),(11,.p (.int .i64 l.length)),(12,.p (.int .i64 0))] [.pv 0 [] false] 28 none=_:=h;have hP:∀(k e:Nat) (s:List (List Nat)),az [.pv e (s.map Nf) false] (k+1) (.sl 0 s.length)=some (.aW (s.map Nf)):=fun k e s=>by simp[az]
 generalize l.map (tvX L)=S at *;generalize cH L=K at *
 (rw[GP (aO rfl),l7];simp(disch:=omega)only[aG,↓aa,seval,-List.reduceReplicate,reduceCtorEq,af,EK,h',om,pD,bz,hP,adp,sTb])
end Go.AE.S
