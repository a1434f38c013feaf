import Derived.Test.YtpccheodgonkkaaGreatF0
import Derived.Test.YtpccheodgonkkaaGreatB0
import Derived.Test.YtpccheodgonkkaaGreatD1
import Derived.Test.YtpccheodgonkkaaGreatE1
import Derived.Test.YtpccheodgonkkaaGreatC0
set_option maxHeartbeats 0
set_option linter.unusedSimpArgs false
set_option linter.unusedVariables false
namespace Go.AE.S
open Go Go.AE
def Je(u:Term):M3:=⟨u.name,u.w,u.op⟩
def VL(t:Term):Prop:=∀u∈t.pre,isVar u=true→u.args=[]
theorem VL.args{t a:Term}(h:VL t)(ha:a∈t.args):VL a:=fun u hu=>h u (lV.2 (.inr ⟨a,ha,hu⟩))
theorem lj(u:Term):isVar u=true↔u.op=24∨u.op=25:=by unfold isVar;rw[decide_eq_true_eq]
theorem Hd{p:Term}{ev:Bool}(h:cB p ev=0):VL p:=by
 intro u hu hv;have ha:=ads (j3 h u hu);rcases(lj u).1 hv with e|e
 ·rw[e,avn]at ha;exact Jq.1 (by omega)
 ·rw[e,avo]at ha;exact Jq.1 (by omega)
theorem ID{t:Term}(h:t.args=[]):t.pre=[t]:=by rw[Term.sx,Term.Ap,h];rfl
theorem TH(hs ns:List V2)(t:Term):VL t→LU hs ns t=No hs ns t:=by
 induction t using Term.ind with
 |h t ih=>
 intro hv;rw[aeX];by_cases h1:t.op=24
 ·rw[if_pos h1]
  unfold No;rw[ID (hv t BU ((lj t).2 (.inl h1)))];simp[G7,h1]
 rw[if_neg h1];by_cases h2:t.op=25
 ·rw[if_pos h2]
  unfold No;rw[ID (hv t BU ((lj t).2 (.inr h2)))];simp[G7,h2]
 rw[if_neg h2]
 have key:∀l:List Term,(∀a∈l,a∈t.args)→FE hs ns l=(l.flatMap Term.pre).all (G7 hs ns):=by
  intro l
  induction l with
  |nil=>intro _;rw[FE];rfl
  |cons a l ih2=>
   intro hl;rw[FE,ih a (hl a (by simp)) (hv.args (hl a (by simp))),ih2 fun b hb=>hl b (by simp[hb]),VF,List.all_append]
   rfl
 rw[key t.args fun _ h=>h]
 unfold No;rw[Term.sx,Term.Ap,R6];simp[G7,h1,h2]
def Cons(L:List Term):Prop:=∀u∈L,∀v∈L,isVar u=true→isVar v=true→u.name=v.name→u.op=v.op∧u.w=v.w
theorem aj5(u:Term)(n:ByteArray):∀s,Dj (MX u s) n=if n=u.name then some u else Dj s n
 | []=>by simp[MX,Dj]
 |e::s=>by
  unfold MX;by_cases h:u.name=e.1
  ·rw[if_pos h]
   simp only[Dj];by_cases h2:n=u.name
   ·rw[if_pos h2,if_pos h2]
   ·rw[if_neg h2,if_neg h2,if_neg (fun e'=>h2 (e'.trans h.symm))]
  ·rw[if_neg h]
   simp only[Dj];by_cases h2:n=e.1
   ·rw[if_pos h2,if_neg (fun e'=>h (e'.symm.trans h2)),if_pos h2]
   ·rw[if_neg h2,if_neg h2]
    exact aj5 u n s
theorem Sf:∀(l p:List Term) (i:Nat) (s s':List (ByteArray×Term)),(∀u∈p,isVar u=true→∃o,Dj s u.name=some o∧o.op=u.op∧o.w=u.w)→aq (fun _ s u=>rp s u) i s l=.inl s'→(∀u∈p++l,isVar u=true→∃o,Dj s' u.name=some o∧o.op=u.op∧o.w=u.w)
 | [],p,i,s,s',hp,h=>by
  simp only[aq,ZI]at h;subst h;simpa using hp
 |a::l,p,i,s,s',hp,h=>by
  simp only[aq]at h
  have step:∀s2,rp s a=.inl s2→∀u∈p++[a],isVar u=true→∃o,Dj s2 u.name=some o∧o.op=u.op∧o.w=u.w:=by
   intro s2 h2 u hu hv;unfold rp at h2;by_cases ha:isVar a=true
   ·rw[if_pos ha]at h2
    have keep:(∃o,Dj s a.name=some o∧o.op=a.op∧o.w=a.w)∨Dj s a.name=none→s2=MX a s→∃o,Dj s2 u.name=some o∧o.op=u.op∧o.w=u.w:=by
     intro hk e;rw[e,aj5];by_cases hn:u.name=a.name
     ·rw[if_pos hn]
      rcases BZ.1 hu with hu|hu
      ·obtain⟨o,h3,h4,h5⟩:=hp u hu hv
       rw[hn]at h3;rcases hk with⟨o',g1,g2,g3⟩|g1
       ·rw[h3,bI]at g1
        subst g1;exact⟨a,rfl,g2.symm.trans h4,g3.symm.trans h5⟩
       ·rw[g1]at h3;cases h3
      ·rw[Gg.1 hu];exact⟨a,rfl,rfl,rfl⟩
     ·rw[if_neg hn]
      rcases BZ.1 hu with hu|hu
      ·exact hp u hu hv
      ·rw[Gg.1 hu]at hn;exact absurd rfl hn
    cases hl:Dj s a.name with
    |none=>
     rw[hl]at h2;simp only[ZI]at h2;exact keep (.inr hl) h2.symm
    |some o=>
     rw[hl]at h2
     simp only at h2
     split at h2
     ·rename_i h3
      simp only[ZI]at h2;exact keep (.inl ⟨o,hl,h3.1,h3.2⟩) h2.symm
     ·cases h2
   ·rw[if_neg ha]at h2
    simp only[ZI]at h2;subst h2;rcases BZ.1 hu with hu|hu
    ·exact hp u hu hv
    ·rw[Gg.1 hu]at hv;exact absurd hv ha
  cases hb:rp s a with
  |inr t=>rw[hb]at h;cases h
  |inl s2=>
   rw[hb]at h;have:=Sf l (p++[a]) (i+1) s2 s' (step s2 hb) h;intro u hu;exact this u (by simpa using hu)
theorem acF{p:Term}{ev:Bool}(h:cB p ev=0):Cons p.pre:=by
 unfold cB at h;split at h
 ·cases h
 ·split at h
  ·rename_i h1;exact absurd h h1
  ·cases hf:aq (fun _ s u=>rp s u) 0 [] p.pre with
   |inr t=>rw[hf]at h;cases h
   |inl s=>
    have key:=Sf p.pre [] 0 [] s (by simp) hf
    simp only[x9]at key;intro u hu v hv h1 h2 hn;obtain⟨o,a1,a2,a3⟩:=key u hu h1;obtain⟨o',b1,b2,b3⟩:=key v hv h2;rw[hn,b1,bI]at a1;subst a1;exact⟨a2.symm.trans b2,a3.symm.trans b3⟩
theorem VQ{op:Int}:∀(l:List Term) (s:List V2),dP s→(∀u∈l,u.op=op→∀v∈l,v.op=op→u.name=v.name→u.w=v.w)→(∀a∈s,∀v∈l,v.op=op→a.name=v.name→a.w=v.w)→∀x,x∈l.foldl (kW op) s↔x∈s∨∃u∈l,u.op=op∧x=⟨u.name,u.w⟩
 | [],s,_,_,_,x=>by simp
 |a::l,s,hs,h1,h2,x=>by
  have hstep:∀y,y∈kW op s a↔y∈s∨(a.op=op∧y=⟨a.name,a.w⟩):=by
   intro y;unfold kW;by_cases ha:a.op=op
   ·rw[if_pos ha,y4 hs]
    constructor
    ·rintro(h|⟨h,_⟩)
     ·exact .inl h
     ·exact .inr ⟨ha,h⟩
    ·rintro(h|⟨_,h⟩)
     ·exact .inl h
     ·by_cases hc:∀b∈s,b.name≠a.name
      ·exact .inr ⟨h,hc⟩
      ·obtain⟨b,hb⟩:=Classical.not_forall.1 hc
       obtain⟨hb,hn⟩:=Classical.not_imp.1 hb;have hn:=VD.1 hn;have hw:=h2 b hb a (by simp) ha hn
       left
       rw[h];have:(⟨a.name,a.w⟩:V2)=b:=Vv.2 ⟨hn.symm,hw.symm⟩;rw[this];exact hb
   ·rw[if_neg ha]
    constructor
    ·exact .inl
    ·rintro(h|⟨h,_⟩)
     ·exact h
     ·exact absurd h ha
  rw[QL,VQ l (kW op s a) (xc hs) (fun u hu ho v hv=>h1 u (by simp[hu]) ho v (by simp[hv])) (fun b hb v hv ho hn=>by
   rcases(hstep b).1 hb with hb|⟨ha,hb⟩
   ·exact h2 b hb v (by simp[hv]) ho hn
   ·rw[hb]at hn ⊢
    exact h1 a (by simp) ha v (by simp[hv]) ho hn) x,hstep]
  simp only[pn,exists_eq_or_imp];constructor
  ·rintro((h|h)|h)
   ·exact .inl h
   ·exact .inr (.inl h)
   ·exact .inr (.inr h)
  ·rintro(h|h|h)
   ·exact .inl (.inl h)
   ·exact .inl (.inr h)
   ·exact .inr h
theorem Ji{op:Int}{p:Term}(hc:Cons p.pre)(ho:op=24∨op=25)(x:V2):x∈varsOf op [p]↔∃u∈p.pre,u.op=op∧x=⟨u.name,u.w⟩:=by
 have hv:∀u:Term,u.op=op→isVar u=true:=fun u hu=>(lj u).2 (by rw[hu];exact ho)
 have:=VQ (op:=op) p.pre [] (by simp[dP]) (fun u hu h1 v hv' h2 hn=>(hc u hu v hv' (hv u h1) (hv v h2) hn).2) (by simp) x
 simp only[ab0,false_or]at this;exact this
theorem QJ{hs ns:List V2}{p:Term}{ev:Bool}(h:cB p ev=0):wiB hs ns p=No hs ns p:=by
 have hc:=acF h;rw[abE];unfold wiB No FM;rw[ud,Ca,Ca,Ca];constructor
 ·rintro⟨h1,h2⟩ u hu
  unfold G7;by_cases a1:u.op=24
  ·rw[if_pos a1]
   exact h1 _ ((Ji hc (.inl rfl) _).2 ⟨u,hu,a1,rfl⟩)
  rw[if_neg a1];by_cases a2:u.op=25
  ·rw[if_pos a2]
   exact h2 _ ((Ji hc (.inr rfl) _).2 ⟨u,hu,a2,rfl⟩)
  rw[if_neg a2]
 ·intro h1
  constructor
  ·intro x hx
   obtain⟨u,hu,ho,rfl⟩:=(Ji hc (.inl rfl) x).1 hx;have:=h1 u hu;unfold G7 at this
   rwa [if_pos ho]at this
  ·intro x hx
   obtain⟨u,hu,ho,rfl⟩:=(Ji hc (.inr rfl) x).1 hx;have:=h1 u hu;unfold G7 at this
   rwa [if_neg (by omega),if_pos ho]at this
theorem ap2(g:Gd)(hs ns:List V2):Dg g hs ns=Mg g hs ns:=by
 unfold Dg Mg;split
 ·rfl
 split
 ·rfl
 rename_i h1;split
 ·rfl
 rename_i h2;have ha:cB g.a false=0:=VD.1 h1
 have e:XC g hs ns=OA g hs ns:=by
  unfold XC OA;rw[QJ ha];by_cases hk:g.kind=1
  ·rw[decide_eq_true hk,TB,TB]
  ·have hb:cB g.b false=0:=abN fun hb=>h2 ⟨hk,hb⟩
   rw[QJ hb]
 rw[e]
theorem afh(hs ns:List V2):∀l:List Gd,xj hs ns l=FK hs ns l
 | []=>rfl
 |g::l=>by rw[xj,FK,ap2,afh hs ns l]
theorem AP:∀l m:List Term,jn (l++m)=jn l++jn m
 | [],m=>by rw[jn];rfl
 |a::l,m=>by rw[FD,jn,jn,AP l m,TA]
theorem aiV(t:Term):VL t→Dy t=(t.pre.flatMap Bx).map Je:=by
 induction t using Term.ind with
 |h t ih=>
 intro hv;rw[NU];by_cases h1:t.op=24∨t.op=25
 ·have hv1:=(lj t).2 h1
  rw[if_pos h1,ID (hv t BU hv1)];simp[Bx,hv1,Je]
 rw[if_neg h1];have hv0:¬isVar t=true:=fun h=>h1 ((lj t).1 h)
 have key:∀l:List Term,(∀a∈l,a∈t.args)→jn l=((l.flatMap Term.pre).flatMap Bx).map Je:=by
  intro l
  induction l with
  |nil=>intro _;rw[jn];rfl
  |cons a l ih2=>
   intro hl;rw[jn,ih a (hl a (by simp)) (hv.args (hl a (by simp))),ih2 fun b hb=>hl b (by simp[hb]),VF,List.flatMap_append,BY]
 rw[key t.args fun _ h=>h,Term.sx,Term.Ap,VF]
 simp[Bx,hv0]
theorem NV:∀l:List Atom,(∀a∈l,VL a.pat)→jn (ec l)=(zE l).map Je
 | [],_=>by unfold ec zE;rw[List.flatMap_nil,jn];rfl
 |a::l,h=>by
  have h2:=NV l fun b hb=>h b (by simp[hb])
  unfold ec zE at *;rw[VF,AP,h2,VF,BY]
  congr 1
  unfold AH mtA;rw[AP,BY]
  congr 1
  ·split
   ·rw[jn];rfl
   ·rw[jn,jn,NU,if_pos (.inl rfl)];rfl
  ·rw[jn,jn,Zy]
   exact aiV a.pat (h a (by simp))
theorem adp(m:M3)(n:ByteArray):∀s,QP (stM m s) n=if n=m.name then some m else QP s n
 | []=>by simp[stM,QP]
 |e::s=>by
  unfold stM;by_cases h:m.name=e.1
  ·rw[if_pos h]
   simp only[QP];by_cases h2:n=m.name
   ·rw[if_pos h2,if_pos h2]
   ·rw[if_neg h2,if_neg h2,if_neg (fun e'=>h2 (e'.trans h.symm))]
  ·rw[if_neg h]
   simp only[QP];by_cases h2:n=e.1
   ·rw[if_pos h2,if_neg (fun e'=>h (e'.symm.trans h2)),if_pos h2]
   ·rw[if_neg h2,if_neg h2]
    exact adp m n s
theorem afs(m:M3):∀s,(stM m s).length=if QP s m.name=none then s.length+1 else s.length
 | []=>by simp[stM,QP]
 |e::s=>by
  unfold stM;by_cases h:m.name=e.1
  ·rw[if_pos h]
   simp[QP,h]
  ·rw[if_neg h]
   simp only[QP,if_neg h,lH,afs m s];split<;>rfl
theorem SL:∀{s:List V2} {v:V2},dP s→(nu s v).length=if ∃a∈s,a.name=v.name then s.length else s.length+1
 | [],v,_=>by simp[nu]
 |a::r,v,hs=>by
  have hs':=LQ.1 hs;unfold nu;split
  ·rename_i h;rw[if_pos ⟨a,by simp,h⟩]
  ·rename_i h
   split
   ·rename_i h3
    rw[if_neg]
    ·rfl
    ·rintro⟨b,hb,e⟩
     rcases pn.1 hb with rfl|hb
     ·exact h e
     ·have:=hs'.1 b hb
      rw[e,rB h3]at this;cases this
   ·rw[lH,SL hs'.2]
    have e:(∃b∈a::r,b.name=v.name)↔∃b∈r,b.name=v.name:=by simp[h]
    by_cases h4:∃b∈r,b.name=v.name
    ·rw[if_pos h4,if_pos (e.2 h4)];rfl
    ·rw[if_neg h4,if_neg (fun x=>h4 (e.1 x))];rfl
theorem S1{op:Int}:∀(l:List Term) (s:List V2) (n:ByteArray),dP s→((∃a∈l.foldl (kW op) s,a.name=n)↔(∃a∈s,a.name=n)∨∃u∈l,u.op=op∧u.name=n)
 | [],s,n,_=>by simp
 |a::l,s,n,hs=>by
  rw[QL,S1 l (kW op s a) n (xc hs)]
  have hstep:(∃b∈kW op s a,b.name=n)↔(∃b∈s,b.name=n)∨(a.op=op∧a.name=n):=by
   unfold kW;by_cases ha:a.op=op
   ·rw[if_pos ha]
    constructor
    ·rintro⟨b,hb,e⟩
     rcases(y4 hs).1 hb with hb|⟨hb,_⟩
     ·exact .inl ⟨b,hb,e⟩
     ·rw[hb]at e;exact .inr ⟨ha,e⟩
    ·rintro(⟨b,hb,e⟩|⟨_,e⟩)
     ·exact⟨b,(y4 hs).2 (.inl hb),e⟩
     ·by_cases hc:∀b∈s,b.name≠a.name
      ·exact⟨⟨a.name,a.w⟩,(y4 hs).2 (.inr ⟨rfl,hc⟩),e⟩
      ·obtain⟨b,hb⟩:=Classical.not_forall.1 hc
       obtain⟨hb,hn⟩:=Classical.not_imp.1 hb;exact⟨b,(y4 hs).2 (.inl hb),(VD.1 hn).trans e⟩
   ·rw[if_neg ha];simp[ha]
  rw[hstep];simp only[pn,exists_eq_or_imp,or_assoc]
theorem Ts{op:Int}(p:List Term)(m:Term):((p++[m]).foldl (kW op) []).length=(p.foldl (kW op) []).length+if m.op=op∧¬∃u∈p,u.op=op∧u.name=m.name then 1 else 0:=by
 rw[abT,QL,List.foldl_nil];have hs:dP (p.foldl (kW op) []):=wu (by simp[dP])
 have hh:=S1 (op:=op) p [] m.name (by simp[dP])
 simp only[ab0,false_and,exists_false,false_or]at hh;by_cases h1:m.op=op
 ·have e:kW op (p.foldl (kW op) []) m=nu (p.foldl (kW op) []) ⟨m.name,m.w⟩:=by unfold kW;rw[if_pos h1]
  rw[e,SL hs];by_cases h2:∃u∈p,u.op=op∧u.name=m.name
  ·rw[if_pos (hh.2 h2),if_neg (fun h=>h.2 h2)];rfl
  ·rw[if_neg (fun h=>h2 (hh.1 h)),if_pos ⟨h1,h2⟩]
 ·have e:∀s,kW op s m=s:=fun s=>by unfold kW;rw[if_neg h1]
  rw[e,if_neg (fun h=>h1 h.1)];rfl
structure aiq (p:List Term) (s:List (ByteArray×M3)):Prop where
 i1:∀o∈p,QP s o.name=some (Je o)
 i2:∀n m,QP s n=some m→∃o∈p,Je o=m∧o.name=n
 i3:s.length=(p.foldl (kW 24) []).length+(p.foldl (kW 25) []).length
theorem Kx:∀(r p:List Term) (s:List (ByteArray×M3)),aiq p s→(∀m∈r,isVar m=true)→match foldM (r.map Je) s with
  |.inl s'=>Fs p r=false∧aiq (p++r) s'
  |.inr _=>Fs p r=true
 | [],p,s,hI,_=>by
  show Fs p []=false∧aiq (p++[]) s;rw[Zy];exact⟨rfl,hI⟩
 |m::r,p,s,hI,hr=>by
  have hm:=(lj m).1 (hr m (by simp))
  have hok:okM s (Je m) = !(p.any (Zz m)):=by
   unfold okM;cases hl:QP s (Je m).name with
   |none=>
    simp only
    symm
    rw[abi,ML];intro o ho hc;have hn:=(of_decide_eq_true hc).1;have:=hI.i1 o ho;rw[←hn]at this;rw[show(Je m).name=m.name from rfl,this]at hl;cases hl
   |some o=>
    simp only
    obtain⟨u,hu,he,hn⟩:=hI.i2 _ _ hl;by_cases h:o.op=(Je m).op∧o.w=(Je m).w
    ·rw[decide_eq_true h]
     symm
     rw[abi,ML];intro v hv hc;have hc:=of_decide_eq_true hc;have h1:=hI.i1 v hv;rw[←hc.1,show m.name=(Je m).name from rfl,hl,bI]at h1;subst h1;rcases hc.2 with h2|h2
     ·exact h2 h.1.symm
     ·exact h2 h.2.symm
    ·rw[decide_eq_false h]
     symm
     rw[Bool.not_eq_false',abB];refine⟨u,hu,decide_eq_true ⟨hn.symm,?_⟩⟩;rw[←he]at h;by_cases h3:m.op=u.op
     ·right
      intro h4;exact h ⟨h3.symm,h4.symm⟩
     ·exact .inl h3
  have e:foldM ((m::r).map Je) s=match bindM s (Je m)with
    |.inl s'=>foldM (r.map Je) s'
    |.inr t=>.inr t:=by
   unfold foldM;rw[sP];simp only[aq];cases bindM s (Je m)with
   |inl s'=>simp only;exact Hv bindM _ 1 0 s'
   |inr t=>rfl
  rw[e]
  show match(match bindM s (Je m)with
    |.inl s'=>foldM (r.map Je) s'
    |.inr t=>.inr t)with
   |.inl s'=>(p.any (Zz m) ||Fs (p++[m]) r)=false∧aiq (p++m::r) s'
   |.inr _=>(p.any (Zz m) ||Fs (p++[m]) r)=true
  unfold bindM;cases hc:p.any (Zz m)with
  |true=>
   rw[hc]at hok;rw[hok];simp
  |false=>
   rw[hc]at hok;rw[hok];simp only[ab4,if_true,G1]
   have hI':aiq (p++[m]) (stM (Je m) s):=by
    have agree:∀o∈p,o.name=m.name→Je o=Je m:=by
     intro o ho hn;have:=(ML.1 hc) o ho;have h1:¬(m.name=o.name∧(¬m.op=o.op∨¬m.w=o.w)):=fun h=>this (decide_eq_true h)
     have h2:m.op=o.op:=abN fun h=>h1 ⟨hn.symm,.inl h⟩
     have h3:m.w=o.w:=abN fun h=>h1 ⟨hn.symm,.inr h⟩
     unfold Je;rw[hn,h2,h3]
    refine⟨fun o ho=>?_,fun n x hx=>?_,?_⟩
    ·rw[adp,show(Je m).name=m.name from rfl]
     rcases BZ.1 ho with ho|ho
     ·by_cases hn:o.name=m.name
      ·rw[if_pos hn,agree o ho hn]
      ·rw[if_neg hn];exact hI.i1 o ho
     ·rw[Gg.1 ho,if_pos rfl]
    ·rw[adp]at hx
     split at hx
     ·rename_i hn
      rw[bI]at hx;exact⟨m,by simp,hx,hn.symm⟩
     ·obtain⟨o,ho,h1⟩:=hI.i2 n x hx
      exact⟨o,by simp[ho],h1⟩
    ·rw[afs,Ts,Ts,hI.i3]
     have hname:(QP s (Je m).name=none)↔¬∃u∈p,u.op=m.op∧u.name=m.name:=by
      constructor
      ·rintro h ⟨u,hu,_,hn⟩
       have:=hI.i1 u hu;rw[hn,show m.name=(Je m).name from rfl,h]at this;cases this
      ·intro h
       cases hl:QP s (Je m).name with
       |none=>rfl
       |some x=>
        obtain⟨o,ho,h1,h2⟩:=hI.i2 _ _ hl;have:=agree o ho h2;exact absurd ⟨o,ho,congrArg M3.op this,h2⟩ h
     rcases hm with h|h
     ·rw[h]at hname ⊢
      by_cases h2:∃u∈p,u.op=24∧u.name=m.name
      ·rw[if_neg (fun x=>hname.1 x h2),if_neg (fun x=>x.2 h2),if_neg (fun x=>by cases x.1)]
       omega
      ·rw[if_pos (hname.2 h2),if_pos ⟨rfl,h2⟩,if_neg (fun x=>by cases x.1)]
       omega
     ·rw[h]at hname ⊢
      by_cases h2:∃u∈p,u.op=25∧u.name=m.name
      ·rw[if_neg (fun x=>hname.1 x h2),if_neg (fun x=>by cases x.1),if_neg (fun x=>x.2 h2)]
       omega
      ·rw[if_pos (hname.2 h2),if_neg (fun x=>by cases x.1),if_pos ⟨rfl,h2⟩]
       omega
   have:=Kx r (p++[m]) (stM (Je m) s) hI' fun x hx=>hr x (by simp[hx])
   rw[TA]at this;exact this
theorem VR{op:Int}(ho:op=24∨op=25):∀(l:List Term) (s:List V2),(l.flatMap Bx).foldl (kW op) s=l.foldl (kW op) s
 | [],s=>rfl
 |a::l,s=>by
  rw[VF,abT,VR ho l,QL]
  congr 1
  unfold Bx;by_cases h:isVar a=true
  ·rw[if_pos h];rfl
  ·rw[if_neg h]
   have:¬a.op=op:=fun e=>h ((lj a).2 (by rw[e];exact ho))
   unfold kW;rw[if_neg this];rfl
theorem OW{op:Int}(ho:op=24∨op=25):∀(l:List Atom) (s:List V2),(zE l).foldl (kW op) s=(ec l).foldl (G3 op) s
 | [],s=>rfl
 |a::l,s=>by
  unfold zE ec;rw[VF,VF,abT,abT];have:=OW ho l;unfold zE ec at this;rw[this]
  congr 1
  unfold mtA AH;rw[abT,abT,VR ho];split
  ·rfl
  ·have e:(uG a).pre=[uG a]:=ID rfl
   simp only[QL,List.foldl_nil,G3,e]
theorem OZ(r:dR)(hc:yd r.left=0):DW r.left=Se r:=by
 have hat:∀a∈r.left,VL a.pat:=by
  have key:∀l:List Atom,yd l=0→∀a∈l,VL a.pat:=by
   intro l
   induction l with
   |nil=>simp
   |cons b l ih=>
    intro h a ha;unfold yd at h;split at h
    ·rename_i h0
     rcases pn.1 ha with rfl|ha
     ·unfold jZ at h0
      split at h0
      ·rename_i h1;exact absurd h0 h1
      ·rename_i h1;exact Hd (VD.1 h1)
     ·exact ih h a ha
    ·rename_i h0;exact absurd h h0
  exact key _ hc
 have hv:∀m∈zE r.left,isVar m=true:=by
  intro m hm;obtain⟨a,ha,hm⟩:=Jp.1 hm;unfold mtA at hm;rcases BZ.1 hm with hm|hm
  ·split at hm
   ·simp at hm
   ·rw[Gg.1 hm];rfl
  ·obtain⟨u,hu,hm⟩:=Jp.1 hm
   unfold Bx at hm;split at hm
   ·rename_i h;rw[Gg.1 hm];exact h
   ·simp at hm
 have h:=Kx (zE r.left) [] [] ⟨by simp,by simp[QP],rfl⟩ hv
 unfold DW Se;rw[NV r.left hat];cases hf:foldM ((zE r.left).map Je) []with
 |inr t=>
  rw[hf]at h
  simp only at h
  rw[h,if_pos rfl]
 |inl s=>
  rw[hf]at h;simp only[x9]at h;rw[h.1,if_neg (by decide)]
  simp only
  have h3:=h.2.i3;have e1:dU r=(zE r.left).foldl (kW 24) []:=(OW (.inl rfl) r.left []).symm;have e2:ja r=(zE r.left).foldl (kW 25) []:=(OW (.inr rfl) r.left []).symm;rw[e1,e2,h3]
  congr 1
theorem ari(r:dR):CF r=anY r:=by
 unfold CF anY ON zu t1;simp only[sP,Cb,Cj];cases hn:iA r.name with
 |false=>rfl
 |true=>
 simp only[Nb,if_false,if_true];by_cases h2:t2 r=0
 rotate_left
 ·simp only[h2,if_false,not_false_eq_true,if_true]
 simp only[h2,if_true,not_true,if_false];by_cases h3:yd r.left=0
 rotate_left
 ·simp only[h3,if_false,not_false_eq_true,if_true]
 simp only[h3,if_true,not_true,if_false,OZ r h3];by_cases h4:Se r=0
 rotate_left
 ·simp only[h4,if_false,not_false_eq_true,if_true]
 simp only[h4,if_true,not_true,if_false];by_cases h5:cB r.right true=0
 rotate_left
 ·simp only[h5,if_false,not_false_eq_true,if_true]
 simp only[h5,if_true,not_true,if_false];unfold t6;rw[TH _ _ _ (Hd h5)];cases hb:No (dU r) (ja r) r.right with
 |false=>rfl
 |true=>
 simp only[Nb,if_false,if_true];by_cases h7:t7 r=0
 rotate_left
 ·simp only[h7,if_false,not_false_eq_true,if_true]
 simp only[h7,if_true,not_true,if_false,afh];split
 ·rename_i h;exact h.symm
 ·rfl
variable {τ:Tm} {σ:ag} {rd:Option Nat}
def Co(g:Gd):List Term:=if g.kind=1 then[g.a]else[g.a,g.b]
def rz(r:dR):List Term:=r.left.map (·.pat)++[r.right]++r.guards.flatMap Co
theorem Hy(g:Gd):(Co g).length≤2:=by unfold Co;split<;>simp
theorem akJ(r:dR)(h:iS r):(rz r).length≤4000:=by
 have h1:=Cl Co 2 r.guards fun g _=>Hy g
 have h2:=h.ll;have h3:=h.gl;unfold rz;simp only[jE,aO,lH,l5];omega
theorem Bp{α β:Type}(f:α→β):∀(l:List α) (i:Nat) (s:List β),aq (T:=Empty) (fun _ s a=>.inl (s++[f a])) i s l=.inl (s++l.map f)
 | [],i,s=>by simp[aq]
 |a::l,i,s=>by
  simp only[aq];rw[Bp f l (i+1) (s++[f a]),sP,TA];rfl
abbrev Sx(r:dR)(s:List Term)(i:Int):List (Nat×AV):=[(1,.p (.ptr r.row 0)),(3,.sl 0 s.length),(9,.p (.aM (r.left.map Atom.row))),(10,.p (.int .i64 r.left.length)),(11,.p (.int .i64 i))]
abbrev Sy(r:dR)(s:List Term)(i:Int):List (Nat×AV):=[(3,.sl 0 s.length),(27,.p (.aM (r.guards.map Gd.row))),(28,.p (.int .i64 r.guards.length)),(29,.p (.int .i64 i))]
theorem XI(r:dR)(h:iS r):al P qJ (Sx r [] 0) (sT1 []) 48 none=back P [1,3,9,10,11] kj 1 (exec P kj ⟨tm (Sx r (r.left.map (·.pat)) r.left.length),sT1 (r.left.map (·.pat)),48,none⟩):=by
 have hll:=h.ll
 obtain⟨_,hL⟩:=ic (P:=P) (nt:=48) (lv:=[1,3,9,10,11]) (b:=kj) (rd:=none) (as:=r.left) (fun i (s:List Term)=>Sx r s i) sT1 (fun _ s a=>s++[a.pat]) (fun i s=>s.length=i)
  (fun i a s ha hi hs=>by
   refine⟨by simp[hs],?_⟩
   have hlt:((i:Int)<r.left.length)=True:=by simpa using hi
   have hx:=fun σ=>aJ (k:=.i64) (es:=6) (σ:=σ) (ax (f:=Atom.row) ha) a.aB
   have a1:=fun r=>ZL (r:=r) s a.pat (by omega)
   simp only[kj];simp(disch:=omega)only[aA,↓aa,seval,-List.reduceReplicate,reduceCtorEq,ae,hlt,hx,iu,eL,pf,kT,u0,a1,Sx,jE]
   try rfl) (fun i s=>rfl) [] rfl _ (Bp (fun a:Atom=>a.pat) r.left 0 [])
 exact hL
theorem XK(r:dR)(h:iS r)(s0:List Term)(h0:s0.length≤100000):al P vj (Sy r s0 0) (sT1 s0) 48 none=back P [3,27,28,29] il 1 (exec P il ⟨tm (Sy r (s0++r.guards.flatMap Co) r.guards.length),sT1 (s0++r.guards.flatMap Co),48,none⟩):=by
 have hgl:=h.gl
 obtain⟨_,hL⟩:=ic (P:=P) (nt:=48) (lv:=[3,27,28,29]) (b:=il) (rd:=none) (as:=r.guards) (fun i (s:List Term)=>Sy r s i) sT1 (fun _ s a=>s++Co a) (fun i s=>s.length≤s0.length+2*i)
  (fun i g s ha hi hs=>by
   have hgp:=Hy g;refine⟨by rw[jE];omega,?_⟩
   have hlt:((i:Int)<r.guards.length)=True:=by simpa using hi
   have hx:=fun σ=>aJ (k:=.i64) (es:=11) (σ:=σ) (ax (f:=Gd.row) ha) g.aB
   have a1:=fun r=>ZL (r:=r) s g.a (by omega)
   unfold Co;rcases dB (g.kind=1)with h1|h1
   ·rw[if_pos (of_eq_true h1)]
    simp only[il];simp(disch:=omega)only[aA,↓aa,seval,-List.reduceReplicate,reduceCtorEq,ae,hlt,hx,bF,aP,qZ,uR,uV,h1,kT,u0,a1,Sy,jE]
    try rfl
   ·rw[if_neg (of_eq_false h1)]
    have a2:=fun r=>ZL (r:=r) (s++[g.a]) g.b (by simp;omega)
    simp only[jE,lH,l5,tn]at a2;have e:s++[g.a,g.b]=s++[g.a]++[g.b]:=by simp
    rw[e];simp only[il];simp(disch:=omega)only[aA,↓aa,seval,-List.reduceReplicate,reduceCtorEq,ae,hlt,hx,bF,aP,qZ,uR,uV,h1,kT,u0,a1,a2,Sy,jE]
    try rfl) (fun i s=>rfl) s0 (by omega) _ (s7 Co r.guards 0 s0)
 exact hL
theorem MG(r:dR)(h:iS r):R P jt [.agg r.row]=some (.aM ((rz r).map Term.row)):=by
 have hll:=h.ll;have h0:=XI r h;have h1:=XK r h (r.left.map (·.pat)++[r.right]) (by simp;omega)
 have a1:=fun z=>ZL (r:=z) (r.left.map (·.pat)) r.right (by simp;omega)
 simp only[jE,aO,lH,l5,tn]at h1 a1;have h0':al P qJ (Sx r [] 0) [.pv 0 [] false] 48 none=_:=h0;simp only[Sx,l5,aO]at h0';simp only[Sy,l5,aO,jE,lH,tn]at h1;unfold rz
 (rw[Mz (aD rfl),oD];simp(disch:=omega)only[aA,↓aa,seval,-List.reduceReplicate,reduceCtorEq,ae,bQ,aZ,xt,Fj,RX,aO,JV,h0',kj,kY,kT,u0,a1,JX,h1,il,jE])
abbrev N2(f:FuncId)(l:List Term)(i:Int):List (Nat×AV):=[(0,.p (.aM (l.map Term.row))),(1,.p (.fn f [])),(7,.p (.int .i64 l.length)),(8,.p (.int .i64 i))]
theorem YQ(f:FuncId)(q:Term→Bool)(l:List Term)(hq:Qp P f)(hr:∀t∈l,R P f [.agg t.row]=some (.bool (q t)))(hl:l.length≤1000000):R P aS [.aM (l.map Term.row),.fn f []]=some (.bool (l.any q)):=by
 have h:=cE (P:=P) (nt:=19) (lv:=[0,1,7,8]) (b:=aY) (rd:=none) (as:=l) (fun i (_:Unit)=>N2 f l i) (fun _=>[]) (fun i _ v=>if q v=true then .inr i else .inl ()) (fun(n:Nat)=>cj 4 (.int .i64 n) []) (fun _ _=>True)
  (fun i v s hv hi hs=>by
   refine⟨fun _ _=>trivial,?_⟩
   have hlt:((i:Int)<l.length)=True:=by simpa using hi
   have hr:=hr v (mi hv);have hx:=fun σ=>aJ (k:=.i64) (es:=5) (σ:=σ) (ax (f:=Term.row) hv) v.aB
   have hq':Qp P f:=fun {_ _}=>hq
   cases h1:q v with
   |true=>
    rw[h1]at hr;simp only[aY,if_true];simp(disch:=omega)only[aA,↓aa,seval,-List.reduceReplicate,reduceCtorEq,ae,hlt,hx,MN,hq',hr,N2,cj]
   |false=>
    rw[h1]at hr;simp only[aY,kS,if_false];simp(disch:=omega)only[aA,↓aa,seval,-List.reduceReplicate,reduceCtorEq,ae,hlt,hx,MN,hq',hr,N2,cj]) (fun i s=>rfl) () trivial
 rcases Bn q l 0 with⟨n,h1,h2⟩|⟨h1,h2⟩
 ·rw[h1]at h
  obtain⟨⟨e',τ',σ',nt',rd'⟩,g1,g2,g3,g4⟩:=h
  simp only at g2 g3 g4
  subst g2;subst g4;have h':al P bY (N2 f l 0) [] 19 none=some (.ret,⟨τ',[],nt',rd'⟩):=g1;simp only[N2]at h'
  have hi:R P aQ [.aM (l.map Term.row),.fn f []]=some (.int .i64 n):=by
   (rw[dG (aD rfl),bm];simp(disch:=omega)only[aA,↓aa,seval,-List.reduceReplicate,reduceCtorEq,ae,aO,dv,h',g3])
  have hn:((n:Int) ≥ 0)=True:=by simp
  rw[h2]
  (rw[cY (aD rfl),bg];simp(disch:=omega)only[aA,↓aa,seval,-List.reduceReplicate,reduceCtorEq,ae,dF,hi,hn])
 ·rw[h1]at h
  obtain⟨_,h⟩:=h;have h':al P bY (N2 f l 0) [] 19 none=_:=h;simp only[N2]at h'
  have hi:R P aQ [.aM (l.map Term.row),.fn f []]=some (.int .i64 (-1)):=by
   (rw[dG (aD rfl),bm];simp(disch:=omega)only[aA,↓aa,seval,-List.reduceReplicate,reduceCtorEq,ae,aO,dv,h',aY,kY])
  rw[h2]
  (rw[cY (aD rfl),bg];simp(disch:=omega)only[aA,↓aa,seval,-List.reduceReplicate,reduceCtorEq,ae,dF,hi])
def ap1(t:Term):Bool:=t.pre.any fun u=>decide (u.w=0)
def JO(r:dR):Bool:=(rz r).any ap1
theorem adA{r:dR}(h:iS r):∀t∈rz r,ia t∧t.count≤400:=by
 intro t ht;unfold rz at ht;rcases BZ.1 ht with ht|ht
 ·rcases BZ.1 ht with ht|ht
  ·obtain⟨a,ha,rfl⟩:=E0.1 ht
   exact h.lt a ha
  ·rw[Gg.1 ht];exact h.rt
 ·obtain⟨g,hg,ht⟩:=Jp.1 ht
  have:=h.gt g hg;unfold Co at ht;split at ht
  ·rw[Gg.1 ht];exact⟨this.1,this.2.2.1⟩
  ·rcases pn.1 ht with rfl|ht
   ·exact⟨this.1,this.2.2.1⟩
   ·rw[Gg.1 ht];exact⟨this.2.1,this.2.2.2⟩
theorem qw(r:dR)(h:iS r):R P eC [.agg r.row]=some (.bool (JO r)):=by
 have h1:=MG r h;have h2:=YQ eW ap1 (rz r) IG (fun t ht=>IZ t (by have:=(adA h t ht).2;omega)) (by have:=akJ r h;omega)
 unfold JO
 (rw[P6 (aD rfl),pJ];simp(disch:=omega)only[aA,↓aa,seval,-List.reduceReplicate,reduceCtorEq,ae,bQ,aZ,Ms,h1,cX,h2])
abbrev Sr(r:dR)(s:List Term)(i:Int):List (Nat×AV):=[(1,.p (.ptr r.row 0)),(3,.sl 0 s.length),(4,.p (.int .i64 i))]
abbrev Ss(r:dR)(s:List Term)(i:Int):List (Nat×AV):=[(1,.p (.ptr r.row 0)),(3,.sl 0 s.length),(5,.p (.int .i64 i))]
theorem UG(r:dR)(hll:r.left.length≤1000):al P rH (Sr r [] 0) (GS []) 61 none=back P [1,3,4] lf 1 (exec P lf ⟨tm (Sr r (r.left.map (·.pat)) r.left.length),GS (r.left.map (·.pat)),61,none⟩):=by
 obtain⟨_,hL⟩:=ic (P:=P) (nt:=61) (lv:=[1,3,4]) (b:=lf) (rd:=none) (as:=r.left) (fun i (s:List Term)=>Sr r s i) GS (fun _ s a=>s++[a.pat]) (fun i s=>s.length=i)
  (fun i a s ha hi hs=>by
   refine⟨by simp[hs],?_⟩
   have hlt:((i:Int)<r.left.length)=True:=by simpa using hi
   have hx:=fun σ=>aJ (k:=.i64) (es:=6) (σ:=σ) (ax (f:=Atom.row) ha) a.aB
   have a1:=fun r=>QT (r:=r) s a.pat (by omega)
   simp only[lf];simp(disch:=omega)only[aA,↓aa,seval,-List.reduceReplicate,reduceCtorEq,ae,hlt,xt,aO,hx,iu,eL,pf,kT,u0,a1,Sr,jE]
   try rfl) (fun i s=>rfl) [] rfl _ (Bp (fun a:Atom=>a.pat) r.left 0 [])
 exact hL
theorem UH(r:dR)(hgl:r.guards.length≤1000)(s0:List Term)(h0:s0.length≤100000):al P xy (Ss r s0 0) (GS s0) 61 none=back P [1,3,5] jk 1 (exec P jk ⟨tm (Ss r (s0++r.guards.flatMap Co) r.guards.length),GS (s0++r.guards.flatMap Co),61,none⟩):=by
 obtain⟨_,hL⟩:=ic (P:=P) (nt:=61) (lv:=[1,3,5]) (b:=jk) (rd:=none) (as:=r.guards) (fun i (s:List Term)=>Ss r s i) GS (fun _ s a=>s++Co a) (fun i s=>s.length≤s0.length+2*i)
  (fun i g s ha hi hs=>by
   have hgp:=Hy g;refine⟨by rw[jE];omega,?_⟩
   have hlt:((i:Int)<r.guards.length)=True:=by simpa using hi
   have hx:=fun σ=>aJ (k:=.i64) (es:=11) (σ:=σ) (ax (f:=Gd.row) ha) g.aB
   have a1:=fun r=>QT (r:=r) s g.a (by omega)
   unfold Co;rcases dB (g.kind=1)with h1|h1
   ·rw[if_pos (of_eq_true h1)]
    simp only[jk];simp(disch:=omega)only[aA,↓aa,seval,-List.reduceReplicate,reduceCtorEq,ae,hlt,Fj,aO,hx,bF,aP,qZ,uR,uV,h1,kT,u0,a1,Ss,jE]
    try rfl
   ·rw[if_neg (of_eq_false h1)]
    have a2:=fun r=>QT (r:=r) (s++[g.a]) g.b (by simp;omega)
    simp only[jE,lH,l5,tn]at a2;have e:s++[g.a,g.b]=s++[g.a]++[g.b]:=by simp
    rw[e];simp only[jk];simp(disch:=omega)only[aA,↓aa,seval,-List.reduceReplicate,reduceCtorEq,ae,hlt,Fj,aO,hx,bF,aP,qZ,uR,uV,h1,kT,u0,a1,a2,Ss,jE]
    try rfl) (fun i s=>rfl) s0 (by omega) _ (s7 Co r.guards 0 s0)
 exact hL
def F9(a b:Atom):Bool:=decide (a.root=b.root) && a.pat.beq b.pat
def I7(g h:Gd):Bool:=decide (g.kind=h.kind) && g.a.beq h.a && g.b.beq h.b
def Ng{α:Type}(q:α→α→Bool)(l m:List α):Bool:=decide (l.length=m.length) && (l.zip m).all fun x=>q x.1 x.2
def afN(r s:dR):Bool:=decide (r.name=s.name) && r.right.beq s.right && Ng F9 r.left s.left && Ng I7 r.guards s.guards
theorem Zt{α:Type}{as bs:List α}{i:Nat}{a b:α}(h:(as.zip bs)[i]?=some (a,b)):as[i]?=some a∧bs[i]?=some b:=by
 rw[List.getElem?_zip_eq_some]at h;exact h
theorem Nh{α:Type}{q:α→α→Bool}(hq:∀a b,q a b=true↔a=b):∀l m:List α,Ng q l m=true↔l=m
 | [],[]=>by simp[Ng]
 | [],b::m=>by simp[Ng]
 |a::l,[]=>by simp[Ng]
 |a::l,b::m=>by
  have ih:=Nh hq l m;unfold Ng at *;rw[ud,decide_eq_true_eq]at *;simp only[lH,List.zip_cons_cons,R6,ud,hq,aco,Nat.add_right_cancel_iff];rw[←ih];constructor
  ·rintro⟨h1,h2,h3⟩;exact⟨h2,h1,h3⟩
  ·rintro⟨h1,h2,h3⟩;exact⟨h2,h1,h3⟩
theorem ahS(a b:Atom):F9 a b=true↔a=b:=by
 unfold F9;rw[ud,decide_eq_true_eq,Term.beq_iff];cases a;cases b;simp
theorem ahT(a b:Gd):I7 a b=true↔a=b:=by
 unfold I7;rw[ud,ud,decide_eq_true_eq,Term.beq_iff,Term.beq_iff];cases a;cases b;simp[and_assoc]
theorem Tl(r s:dR):afN r s=true↔r=s:=by
 unfold afN;rw[ud,ud,ud,decide_eq_true_eq,Term.beq_iff,Nh ahS,Nh ahT];cases r;cases s;simp only[dR.mk.injEq];constructor
 ·rintro⟨⟨⟨h1,h2⟩,h3⟩,h4⟩;exact⟨h1,h3,h2,h4⟩
 ·rintro⟨h1,h3,h2,h4⟩;exact⟨⟨⟨h1,h2⟩,h3⟩,h4⟩
theorem amg:vl 11 (aW [.p (.int .i64 0),.p (.int .i64 0),.p (.int .i64 0),.p (.int .u64 0),.p (.str (bs [])),.aC,.p (.int .i64 0),.p (.int .i64 0),.p (.int .u64 0),.p (.str (bs [])),.aC] [])=some (.ptr 2 1 0 0,[.pv 0 [] false,.pv 0 [] false,.av 11 [[.p (.int .i64 0),.p (.int .i64 0),.p (.int .i64 0),.p (.int .u64 0),.p (.str (bs [])),.sl 0 0,.p (.int .i64 0),.p (.int .i64 0),.p (.int .u64 0),.p (.str (bs [])),.sl 1 0]] false]):=rfl
theorem ahh(a:Gd):Mm 1 0 0 11 true (some (.pv 11 [a.row] false))=some (.p (.agg a.row)):=by rw[a.aR];rfl
abbrev Ug(l m:List Gd)(i:Int):List (Nat×AV):=[(0,.p (.aM (l.map Gd.row))),(1,.p (.aM (m.map Gd.row))),(5,.p (.int .i64 i))]
theorem Kf(l m:List Gd)(hl:l.length≤1000000)(ih:∀a∈l,ia a.a∧ia a.b):R P iy [.aM (l.map Gd.row),.aM (m.map Gd.row)]=some (.bool (Ng I7 l m)):=by
 unfold Ng;rcases dB (((l.length:Nat):Int)=((m.length:Nat):Int))with h1|h1
 rotate_left
 ·rw[decide_eq_false (fun h=>of_eq_false h1 (by rw[h])),Dr]
  (rw[vT (aD rfl),iq];simp(disch:=omega)only[aA,↓aa,seval,-List.reduceReplicate,reduceCtorEq,ae,aO,h1])
 have hlm:l.length=m.length:=by have:=of_eq_true h1;omega
 rw[decide_eq_true hlm,VG];have hz:(l.zip m).length=l.length:=by rw[List.length_zip];omega
 have h:=cE (P:=P) (nt:=56) (lv:=[0,1,5]) (b:=fT) (rd:=none) (as:=l.zip m) (fun i (_:Unit)=>Ug l m i) (fun _=>[]) (fun _ _ x=>if I7 x.1 x.2=true then .inl ()else .inr ()) (fun(_:Unit)=>cj 4 (.bool false) []) (fun _ _=>True)
  (fun i x s ha hi hs=>by
   obtain⟨g1,g2⟩:=Zt ha;have hm:=ih x.1 (mi g1);have k1:=CH x.1.a hm.1 x.2.a;have k2:=CH x.1.b hm.2 x.2.b;have hlt:((i:Int)<l.length)=True:=by rw[hz]at hi;simpa using hi
   have hx1:=fun σ=>aJ (k:=.i64) (es:=11) (σ:=σ) (ax (f:=Gd.row) g1) x.1.aB
   have hx2:=fun σ=>aJ (k:=.i64) (es:=11) (σ:=σ) (ax (f:=Gd.row) g2) x.2.aB
   refine⟨fun _ _=>trivial,?_⟩
   unfold I7;rcases dB (x.1.kind=x.2.kind)with q1|q1
   rotate_left
   ·rw[decide_eq_false (of_eq_false q1)]
    simp only[Dr,kS,if_false,fT];simp(disch:=omega)only[aA,↓aa,seval,-List.reduceReplicate,reduceCtorEq,ae,hlt,aO,hx1,hx2,bF,aP,qZ,q1,Ug,cj]
   rw[decide_eq_true (of_eq_true q1)];cases c1:x.1.a.beq x.2.a with
   |false=>
    rw[c1]at k1;simp only[abt,Dr,kS,if_false,fT];simp(disch:=omega)only[aA,↓aa,seval,-List.reduceReplicate,reduceCtorEq,ae,hlt,aO,hx1,hx2,bF,aP,qZ,uR,q1,kL,k1,Ug,cj]
   |true=>
    rw[c1]at k1;cases c2:x.1.b.beq x.2.b with
    |false=>
     rw[c2]at k2;simp only[abt,kS,if_false,fT];simp(disch:=omega)only[aA,↓aa,seval,-List.reduceReplicate,reduceCtorEq,ae,hlt,aO,hx1,hx2,bF,aP,qZ,uR,uV,q1,kL,k1,k2,Ug,cj]
    |true=>
     rw[c2]at k2;simp only[QM,if_true,fT];simp(disch:=omega)only[aA,↓aa,seval,-List.reduceReplicate,reduceCtorEq,ae,hlt,aO,hx1,hx2,bF,aP,qZ,uR,uV,q1,kL,k1,k2,Ug,cj]) (fun i s=>rfl) () trivial
 rw[s6 (fun x:Gd×Gd=>I7 x.1 x.2),hz]at h
 cases hb:(l.zip m).all fun x=>I7 x.1 x.2 with
 |true=>
  rw[hb]at h;obtain⟨_,g1⟩:=h;have h':al P o8 (Ug l m 0) [] 56 none=_:=g1;simp only[Ug]at h'
  (rw[vT (aD rfl),iq];simp(disch:=omega)only[aA,↓aa,seval,-List.reduceReplicate,reduceCtorEq,ae,aO,h1,Aa,h',fT,kY])
 |false=>
  rw[hb]at h;obtain⟨⟨e,τ',σ',nt',rd'⟩,g1,g2,g3,g4⟩:=h
  simp only at g2 g3 g4
  subst g2;have h':al P o8 (Ug l m 0) [] 56 none=_:=g1;simp only[Ug]at h'
  (rw[vT (aD rfl),iq];simp(disch:=omega)only[aA,↓aa,seval,-List.reduceReplicate,reduceCtorEq,ae,aO,h1,Aa,h',g3])
abbrev NY(r s:dR)(i:Int):List (Nat×AV):=[(2,.p (.ptr r.row 0)),(3,.p (.ptr s.row 0)),(5,.p (.int .i64 i))]
theorem am4(r s:dR)(h:iS r)(hlm:r.left.length=s.left.length):nC (fun _:Unit=>True∧al P sM (NY r s 0) [] 72 none=back P [2,3,5] ny 0 (exec P ny ⟨tm (NY r s r.left.length),[],72,none⟩)) (fun _:Unit=>∃q,al P sM (NY r s 0) [] 72 none=some q∧cj 4 (.bool false) [] q) (if(r.left.zip s.left).all (fun x=>F9 x.1 x.2)=true then .inl ()else .inr ()):=by
 have hll:=h.ll;have hz:(r.left.zip s.left).length=r.left.length:=by rw[List.length_zip];omega
 have h:=cE (P:=P) (nt:=72) (lv:=[2,3,5]) (b:=ny) (rd:=none) (as:=r.left.zip s.left) (fun i (_:Unit)=>NY r s i) (fun _=>[]) (fun _ _ x=>if F9 x.1 x.2=true then .inl ()else .inr ()) (fun(_:Unit)=>cj 4 (.bool false) []) (fun _ _=>True)
  (fun i x s' ha hi hs=>by
   obtain⟨g1,g2⟩:=Zt ha;have hm:=h.lt x.1 (mi g1);have k1:=CH x.1.pat hm.1 x.2.pat;have hlt:((i:Int)<r.left.length)=True:=by rw[hz]at hi;simpa using hi
   have hx1:=fun σ=>aJ (k:=.i64) (es:=6) (σ:=σ) (ax (f:=Atom.row) g1) x.1.aB
   have hx2:=fun σ=>aJ (k:=.i64) (es:=6) (σ:=σ) (ax (f:=Atom.row) g2) x.2.aB
   refine⟨fun _ _=>trivial,?_⟩
   unfold F9;rcases dB (x.1.root=x.2.root)with q1|q1
   rotate_left
   ·rw[decide_eq_false (of_eq_false q1)]
    simp only[Dr,kS,if_false,ny];simp(disch:=omega)only[aA,↓aa,seval,-List.reduceReplicate,reduceCtorEq,ae,hlt,xt,aO,hx1,hx2,iu,eL,jl,q1,NY,cj]
   rw[decide_eq_true (of_eq_true q1)];cases c1:x.1.pat.beq x.2.pat with
   |false=>
    rw[c1]at k1;simp only[abt,kS,if_false,ny];simp(disch:=omega)only[aA,↓aa,seval,-List.reduceReplicate,reduceCtorEq,ae,hlt,xt,aO,hx1,hx2,iu,eL,jl,pf,q1,kL,k1,NY,cj]
   |true=>
    rw[c1]at k1;simp only[QM,if_true,ny];simp(disch:=omega)only[aA,↓aa,seval,-List.reduceReplicate,reduceCtorEq,ae,hlt,xt,aO,hx1,hx2,iu,eL,jl,pf,q1,kL,k1,NY,cj]) (fun i s=>rfl) () trivial
 rw[s6 (fun x:Atom×Atom=>F9 x.1 x.2),hz]at h
 exact h
theorem Qk(r s:dR)(h:iS r):R P so [.agg r.row,.agg s.row]=some (.bool (afN r s)):=by
 have hll:=h.ll;have hgl:=h.gl;have k1:=CH r.right h.rt.1 s.right;have k3:=Kf r.guards s.guards (by omega) fun g hg=>⟨(h.gt g hg).1,(h.gt g hg).2.1⟩
 unfold afN;rcases dB (r.name=s.name)with h1|h1
 rotate_left
 ·rw[decide_eq_false (of_eq_false h1),Dr,Dr,Dr]
  (rw[vS (aD rfl),mc];simp(disch:=omega)only[aA,↓aa,seval,-List.reduceReplicate,reduceCtorEq,ae,bQ,aZ,MI,h1])
 rw[decide_eq_true (of_eq_true h1),VG];have e:Ng F9 r.left s.left=(decide (r.left.length=s.left.length) && (r.left.zip s.left).all fun x=>F9 x.1 x.2):=rfl
 rw[e];rcases dB (((r.left.length:Nat):Int)=((s.left.length:Nat):Int))with h2|h2
 rotate_left
 ·rw[decide_eq_false (fun h=>of_eq_false h2 (by rw[h])),Dr,abt,Dr]
  (rw[vS (aD rfl),mc];simp(disch:=omega)only[aA,↓aa,seval,-List.reduceReplicate,reduceCtorEq,ae,bQ,aZ,MI,xt,aO,h1,h2])
 have hlm:r.left.length=s.left.length:=by have:=of_eq_true h2;omega
 rw[decide_eq_true hlm,VG];cases q1:r.right.beq s.right with
 |false=>
  rw[q1]at k1;rw[Dr,Dr]
  (rw[vS (aD rfl),mc];simp(disch:=omega)only[aA,↓aa,seval,-List.reduceReplicate,reduceCtorEq,ae,bQ,aZ,MI,xt,aO,h1,h2,RX,kL,k1])
 |true=>
 rw[q1]at k1;rw[VG];cases q3:Ng I7 r.guards s.guards with
 |false=>
  rw[q3]at k3;rw[abt]
  (rw[vS (aD rfl),mc];simp(disch:=omega)only[aA,↓aa,seval,-List.reduceReplicate,reduceCtorEq,ae,bQ,aZ,MI,xt,Fj,aO,h1,h2,RX,kL,k1,vN,k3])
 |true=>
 rw[q3]at k3;rw[abR];have hL:=am4 r s h hlm;cases hb:(r.left.zip s.left).all fun x=>F9 x.1 x.2 with
 |true=>
  rw[hb]at hL;obtain⟨_,g1⟩:=hL;have h':al P sM (NY r s 0) [] 72 none=_:=g1;simp only[NY]at h'
  (rw[vS (aD rfl),mc];simp(disch:=omega)only[aA,↓aa,seval,-List.reduceReplicate,reduceCtorEq,ae,bQ,aZ,MI,xt,Fj,aO,h1,h2,RX,kL,k1,vN,k3,KJ,h',ny,kY])
 |false=>
  rw[hb]at hL;obtain⟨⟨e,τ',σ',nt',rd'⟩,g1,g2,g3,g4⟩:=hL
  simp only at g2 g3 g4
  subst g2;have h':al P sM (NY r s 0) [] 72 none=_:=g1;simp only[NY]at h'
  (rw[vS (aD rfl),mc];simp(disch:=omega)only[aA,↓aa,seval,-List.reduceReplicate,reduceCtorEq,ae,bQ,aZ,MI,xt,Fj,aO,h1,h2,RX,kL,k1,vN,k3,KJ,h',g3])
def zG:Gd:=⟨0,zT,zT⟩
def Sd(w:Int)(g:Gd):Option Gd :=
 if(g.a.mH w).2=true then
  if g.kind=1 then some ⟨g.kind,(g.a.mH w).1,g.b⟩
  else if(g.b.mH w).2=true then some ⟨g.kind,(g.a.mH w).1,(g.b.mH w).1⟩else none
 else none
def ZN:Option Gd→List PV
 |some g=>[.agg g.row,.int .i64 0]
 |none=>[.agg zG.row,.int .i64 3]
theorem alV:zG.row=[.int .i64 0,.int .i64 0,.int .i64 0,.int .u64 0,.str (bs []),.aM [],.int .i64 0,.int .i64 0,.int .u64 0,.str (bs []),.aM []]:=by rw[Gd.aR];rfl
theorem apD{k:Int}{a b:Term}:k8 [.p (.int .i64 0),.p (.int .i64 0),.p (.int .i64 0),.p (.int .u64 0),.p (.str (bs [])),.aC,.p (.int .i64 0),.p (.int .i64 0),.p (.int .u64 0),.p (.str (bs [])),.aC] [(0,1,.p (.int .i64 k)),(1,5,.p (.agg a.row)),(6,5,.p (.agg b.row))]=some (.p (.agg (Gd.row ⟨k,a,b⟩))):=by
 rw[Gd.aR,Term.aR a,Term.aR b];rfl
theorem amp:k8 [.p (.int .i64 0),.p (.int .i64 0),.p (.int .i64 0),.p (.int .u64 0),.p (.str (bs [])),.aC,.p (.int .i64 0),.p (.int .i64 0),.p (.int .u64 0),.p (.str (bs [])),.aC] []=some (.agg [.p (.int .i64 0),.p (.int .i64 0),.p (.int .i64 0),.p (.int .u64 0),.p (.str (bs [])),.aC,.p (.int .i64 0),.p (.int .i64 0),.p (.int .u64 0),.p (.str (bs [])),.aC]):=rfl
theorem afS{c0 c1 c2 c3 c4 c5 c6 c7 c8 c9 c10:AV}{o p:Obj}:eM [o,p,.av 11 [[c0,c1,c2,c3,c4,c5,c6,c7,c8,c9,c10]] false] 11 (.ptr 2 1 0 0) (.agg [.p (.int .i64 0),.p (.int .i64 0),.p (.int .i64 0),.p (.int .u64 0),.p (.str (bs [])),.aC,.p (.int .i64 0),.p (.int .i64 0),.p (.int .u64 0),.p (.str (bs [])),.aC])=some [o,p,.av 11 [[.p (.int .i64 0),.p (.int .i64 0),.p (.int .i64 0),.p (.int .u64 0),.p (.str (bs [])),.sl 3 0,.p (.int .i64 0),.p (.int .i64 0),.p (.int .u64 0),.p (.str (bs [])),.sl 4 0]] false,.pv 0 [] false,.pv 0 [] false]:=rfl
theorem afT{c0 c1 c2 c3 c4 c5 c6 c7 c8 c9 c10:AV}{o p q:Obj}:eM [o,p,.av 11 [[c0,c1,c2,c3,c4,c5,c6,c7,c8,c9,c10]] false,q] 11 (.ptr 2 1 0 0) (.agg [.p (.int .i64 0),.p (.int .i64 0),.p (.int .i64 0),.p (.int .u64 0),.p (.str (bs [])),.aC,.p (.int .i64 0),.p (.int .i64 0),.p (.int .u64 0),.p (.str (bs [])),.aC])=some [o,p,.av 11 [[.p (.int .i64 0),.p (.int .i64 0),.p (.int .i64 0),.p (.int .u64 0),.p (.str (bs [])),.sl 4 0,.p (.int .i64 0),.p (.int .i64 0),.p (.int .u64 0),.p (.str (bs [])),.sl 5 0]] false,q,.pv 0 [] false,.pv 0 [] false]:=rfl
theorem afR{c0 c1 c2 c3 c4 c5 c6 c7 c8 c9 c10:AV}{o p q:Obj}(a:Gd):eM [o,p,.av 11 [[c0,c1,c2,c3,c4,c5,c6,c7,c8,c9,c10]] false,q] 11 (.ptr 2 1 0 0) (.p (.agg a.row))=some [o,p,.pv 11 [a.row] false,q]:=by rw[a.aR];rfl
theorem aob{o p q:Obj}(t u:Term):RU [o,p,q,.pv 5 [u.row] false] 3 1 0 0 (List.map AV.p t.row) (some (.pv 5 [u.row] false))=some [o,p,q,.pv 5 [t.row] false]:=by rw[Term.aR t,Term.aR u];rfl
theorem aek(g:Gd)(w:Int)(hw:1≤w∧w≤64)(hk:1≤g.kind∧g.kind≤4)(ha:ia g.a)(hb:ia g.b)(ca:g.a.count≤400000)(cb:g.b.count≤400000):R P sk [.agg g.row,.int .i64 w]=some (.jC (ZN (Sd w g))):=by
 have k1:=ym g.a w ⟨by omega,by omega⟩ ha (by omega)
 have k2:=ym g.b w ⟨by omega,by omega⟩ hb (by omega)
 rw[if_pos hw]at k1 k2;have kc:=AG g.b (by omega)
 have lo:(g.kind<1)=False:=by simp;omega
 have hi:(g.kind > 4)=False:=by simp;omega
 unfold Sd;cases e1:(g.a.mH w).2 with
 |false=>
  unfold Ko at k1;rw[e1]at k1;simp only[kS,if_false]at k1 ⊢;unfold ZN
  (rw[Cy (aD rfl),py];simp(disch:=omega)only[aA,↓aa,seval,-List.reduceReplicate,reduceCtorEq,ae,bF,aP,qZ,uR,lo,hi,amg,amp,afS,afT,afR,aob,ahh,jT,k1])
  rw[alV];rfl
 |true=>
  unfold Ko at k1;rw[e1]at k1;simp only[if_true]at k1 ⊢;rcases dB (g.kind=1)with h1|h1
  ·rw[if_pos (of_eq_true h1)]
   unfold ZN
   (rw[Cy (aD rfl),py];simp(disch:=omega)only[aA,↓aa,seval,-List.reduceReplicate,reduceCtorEq,ae,bF,aP,qZ,uR,uV,lo,hi,h1,amg,amp,afS,afT,afR,aob,ahh,jT,k1,tf,kc,apD])
  ·rw[if_neg (of_eq_false h1)]
   cases e2:(g.b.mH w).2 with
   |false=>
    unfold Ko at k2;rw[e2]at k2;simp only[kS,if_false]at k2 ⊢;unfold ZN
    (rw[Cy (aD rfl),py];simp(disch:=omega)only[aA,↓aa,seval,-List.reduceReplicate,reduceCtorEq,ae,bF,aP,qZ,uR,uV,lo,hi,h1,amg,amp,afS,afT,afR,aob,ahh,jT,k1,k2,tf,kc,apD])
    rw[alV];rfl
   |true=>
    unfold Ko at k2;rw[e2]at k2;simp only[if_true]at k2 ⊢;unfold ZN
    (rw[Cy (aD rfl),py];simp(disch:=omega)only[aA,↓aa,seval,-List.reduceReplicate,reduceCtorEq,ae,bF,aP,qZ,uR,uV,lo,hi,h1,amg,amp,afS,afT,afR,aob,ahh,jT,k1,k2,tf,kc,apD])
def ZM(w:Int)(a:Atom):Option Atom:=if(a.pat.mH w).2=true then some ⟨a.root,(a.pat.mH w).1⟩else none
def xO{α β:Type}(h:α→Option β)(s:List β)(a:α):List β ⊕ List β:=match h a with
 |some b=>.inl (s++[b])
 |none=>.inr s
theorem Bo{α β:Type}(h:α→Option β):∀(l:List α) (i:Nat) (s:List β),match omap h l with
  |some m=>aq (fun _ s a=>xO h s a) i s l=.inl (s++m)∧m.length=l.length
  |none=>∃t,aq (fun _ s a=>xO h s a) i s l=.inr t
 | [],i,s=>by simp[omap,aq]
 |a::l,i,s=>by
  simp only[omap,aq,xO];cases ha:h a with
  |none=>exact⟨s,rfl⟩
  |some b=>
   have ih:=Bo h l (i+1) (s++[b]);simp only[xO]at ih;cases hm:omap h l with
   |none=>rw[hm]at ih;exact ih
   |some m=>
    rw[hm]at ih;refine⟨?_,by simp[ih.2]⟩
    show aq _ (i+1) (s++[b]) l=_;rw[ih.1];simp
def z8(a b c:Nat):List AV:=[.p (.str (bs [])),.sl a 0,.p (.int .i64 0),.p (.int .i64 0),.p (.int .u64 0),.p (.str (bs [])),.sl b 0,.sl c 0]
abbrev Ag:Obj:=.pv 0 [] false
abbrev EL(k:Nat)(n:ByteArray)(s:List Atom):ag:=[Ag,Ag,Ag,.av 8 [z8 k (k+1) (k+2)] false,.pv (lK 6 s) (s.map Atom.row) false,Ag,Ag,.av 8 [[.p (.str n),.sl 4 s.length,.p (.int .i64 0),.p (.int .i64 0),.p (.int .u64 0),.p (.str (bs [])),.sl 5 0,.sl 6 0]] false]
def S4(n:ByteArray)(s:List Atom)(r:Ex×St):Prop:=r.1=.ret∧r.2.τ.get 4=.ptr 3 1 0 0∧r.2.τ.get 5=.p (.int .i64 3) ∧
 r.2.σ=EL 8 n s++[Ag,Ag,Ag]
abbrev W7(r:dR)(w:Int)(i:Int):List (Nat×AV):=[(1,.p (.int .i64 w)),(2,.p (.ptr r.row 0)),(4,.ptr 3 1 0 0),(6,.ptr 7 1 0 0),(28,.p (.aM (r.left.map Atom.row))),(29,.p (.int .i64 r.left.length)),(30,.p (.int .i64 i))]
theorem CP:k8 [.p (.str (bs [])),.aC,.p (.int .i64 0),.p (.int .i64 0),.p (.int .u64 0),.p (.str (bs [])),.aC,.aC] []=some (.agg [.p (.str (bs [])),.aC,.p (.int .i64 0),.p (.int .i64 0),.p (.int .u64 0),.p (.str (bs [])),.aC,.aC]):=rfl
theorem asL{a:ByteArray}{t:Term}:k8 [.p (.str (bs [])),.p (.int .i64 0),.p (.int .i64 0),.p (.int .u64 0),.p (.str (bs [])),.aC] [(0,1,.p (.str a)),(1,5,.p (.agg t.row))]=some (.p (.agg (Atom.row ⟨a,t⟩))):=by
 rw[Atom.aR,Term.aR t];rfl
theorem aeW{a:Atom}:Du σ 6 1 (gz (List.replicate 1 [.p (.str (bs [])),.p (.int .i64 0),.p (.int .i64 0),.p (.int .u64 0),.p (.str (bs [])),.aC]).flatten [(0,6,.p (.agg a.row))])=some (.p (.aM [a.row]),σ):=by rw[a.aR];rfl
theorem api{a:Atom}:nn σ 6 (.p (.aM [a.row]))=some (.inl [a.row]):=Qt (by simp[wide,a.aB])
theorem als{c0 c1 c2 c3 c4 c5 c6 c7:AV}{a b c d e f g:Obj}:eM [a,b,c,.av 8 [[c0,c1,c2,c3,c4,c5,c6,c7]] false,d,e,f,g] 8 (.ptr 3 1 0 0) (.agg [.p (.str (bs [])),.aC,.p (.int .i64 0),.p (.int .i64 0),.p (.int .u64 0),.p (.str (bs [])),.aC,.aC])=some [a,b,c,.av 8 [z8 8 9 10] false,d,e,f,g,Ag,Ag,Ag]:=rfl
theorem aub{c0 c1 c2 c3 c4 c5 c6 c7:AV}:part 1 1 [c0,c1,c2,c3,c4,c5,c6,c7]=some [c1]:=rfl
theorem avK{c0 c1 c2 c3 c4 c5 c6 c7:AV}:part 7 1 [c0,c1,c2,c3,c4,c5,c6,c7]=some [c7]:=rfl
theorem auc{c0 c1 c2 c3 c4 c5 c6 c7:AV}:part 0 8 [c0,c1,c2,c3,c4,c5,c6,c7]=some [c0,c1,c2,c3,c4,c5,c6,c7]:=rfl
theorem aud{x c0 c1 c2 c3 c4 c5 c6 c7:AV}:ck 1 [x] [c0,c1,c2,c3,c4,c5,c6,c7]=some [c0,x,c2,c3,c4,c5,c6,c7]:=rfl
theorem aue{x c0 c1 c2 c3 c4 c5 c6 c7:AV}:ck 7 [x] [c0,c1,c2,c3,c4,c5,c6,c7]=some [c0,c1,c2,c3,c4,c5,c6,x]:=rfl
theorem aha(r:dR)(w:Int)(h:iS r)(hw:1≤w∧w≤64):nC (fun s:List Atom=>s.length=r.left.length∧al P B4 (W7 r w 0) (EL 0 r.name []) 93 none=back P [1,2,4,6,28,29,30] nR 8 (exec P nR ⟨tm (W7 r w r.left.length),EL 0 r.name s,93,none⟩)) (fun s:List Atom=>∃q,al P B4 (W7 r w 0) (EL 0 r.name []) 93 none=some q∧S4 r.name s q) (aq (fun _ s a=>xO (ZM w) s a) 0 [] r.left):=by
 have hll:=h.ll
 have hL:=cE (P:=P) (nt:=93) (lv:=[1,2,4,6,28,29,30]) (b:=nR) (rd:=none) (as:=r.left) (fun i (_:List Atom)=>W7 r w i) (EL 0 r.name) (fun _ s a=>xO (ZM w) s a) (S4 r.name) (fun i s=>s.length=i)
  (fun i a s ha hi hs=>by
   have hat:=h.lt a (mi ha);have hr:=ym a.pat w ⟨by omega,by omega⟩ hat.1 (by omega)
   rw[if_pos hw]at hr;have hlt:((i:Int)<r.left.length)=True:=by simpa using hi
   have hx:=fun σ=>aJ (k:=.i64) (es:=6) (σ:=σ) (ax (f:=Atom.row) ha) a.aB
   unfold xO ZM;unfold Ko at hr;generalize hxx:a.pat.mH w=x at hr;obtain⟨x,ok⟩:=x;cases ok with
   |true=>
    have hap:=dA (σ:=EL 0 r.name s) (b:=4) (n:=s.length) (e:=lK 6 s) (es:=6) (bytes:=80) (rows:=s.map Atom.row) (new:=[Atom.row ⟨a.root,x⟩]) rfl (by simp) (qO _ _ _) (by simp only[lH,l5];omega)
    simp only[EL,z8,tn,lH,l5]at hap;simp only[if_true]at hr ⊢;refine⟨fun s' he=>by simp at he;subst he;simp[hs],?_⟩
    simp only[nR];simp(disch:=omega)only[aA,↓aa,seval,-List.reduceReplicate,reduceCtorEq,ae,hlt,aO,hx,iu,eL,jl,pf,jT,hr,aub,aud,asL,aeW,api,EL,z8,hap,BY,jE,jd,W7]
    try rfl
   |false=>
    simp only[kS,if_false]at hr ⊢;refine⟨fun s' he=>by simp at he,?_⟩
    simp only[nR];simp(disch:=omega)only[aA,↓aa,seval,-List.reduceReplicate,reduceCtorEq,ae,hlt,aO,hx,iu,eL,jl,pf,jT,hr,CP,als,EL,z8,S4,W7]
    try rfl) (fun i s=>rfl) [] rfl
 exact hL
def zR:dR:=⟨bs [],[],zT,[]⟩
theorem A3:zR.row=[.str (bs []),.aM [],.int .i64 0,.int .i64 0,.int .u64 0,.str (bs []),.aM [],.aM []]:=by rw[dR.aR];rfl
def atR(w:Int)(r:dR):Option dR:=match omap (ZM w) r.left with
 |some l=>if(r.right.mH w).2=true then
   match omap (Sd w) r.guards with
   |some gs=>some ⟨r.name,l,(r.right.mH w).1,gs⟩
   |none=>none
  else none
 |none=>none
def Ju:Option dR→List PV
 |some x=>[.agg x.row,.int .i64 0]
 |none=>[.agg zR.row,.int .i64 3]
def agf(w:Int)(r:dR):List PV:=if 1≤w∧w≤64 then Ju (atR w r)else[.agg zR.row,.int .i64 2]
abbrev sRG(k:Nat)(n:ByteArray)(l:List Atom)(t:Term)(s:List Gd):ag:=[Ag,Ag,Ag,.av 8 [z8 k (k+1) (k+2)] false,.pv (lK 6 l) (l.map Atom.row) false,Ag,.pv (lK 11 s) (s.map Gd.row) false,.av 8 [[.p (.str n),.sl 4 l.length,.p (.int .i64 t.op),.p (.int .i64 t.w),.p (.int .u64 t.v),.p (.str t.name),.p (.aM (t.args.map Term.row)),.sl 6 s.length]] false]
def akI(n:ByteArray)(l:List Atom)(t:Term)(s:List Gd)(r:Ex×St):Prop:=r.1=.ret∧r.2.τ.get 4=.ptr 3 1 0 0∧r.2.τ.get 5=.p (.int .i64 3) ∧
 r.2.σ=sRG 8 n l t s++[Ag,Ag,Ag]
abbrev W8(r:dR)(w:Int)(i:Int):List (Nat×AV):=[(1,.p (.int .i64 w)),(4,.ptr 3 1 0 0),(6,.ptr 7 1 0 0),(69,.p (.aM (r.guards.map Gd.row))),(70,.p (.int .i64 r.guards.length)),(71,.p (.int .i64 i))]
theorem TG{a:Gd}:Du σ 11 1 (gz (List.replicate 1 [.p (.int .i64 0),.p (.int .i64 0),.p (.int .i64 0),.p (.int .u64 0),.p (.str (bs [])),.aC,.p (.int .i64 0),.p (.int .i64 0),.p (.int .u64 0),.p (.str (bs [])),.aC]).flatten [(0,11,.p (.agg a.row))])=some (.p (.aM [a.row]),σ):=by rw[a.aR];rfl
theorem alm{a:Gd}:nn σ 11 (.p (.aM [a.row]))=some (.inl [a.row]):=Qt (by simp[wide,a.aB])
theorem ac9{g:Gd}(h:DG g=true):1≤g.kind∧g.kind≤4:=by
 unfold DG at h;split at h
 ·omega
 ·split at h
  ·omega
  ·have:=of_decide_eq_true h;omega
theorem ahc(r:dR)(w:Int)(l:List Atom)(t:Term)(h:iS r)(hk:∀g∈r.guards,1≤g.kind∧g.kind≤4)(hw:1≤w∧w≤64):nC (fun s:List Gd=>s.length=r.guards.length∧al P B7 (W8 r w 0) (sRG 0 r.name l t []) 93 none=back P [1,4,6,69,70,71] rV 8 (exec P rV ⟨tm (W8 r w r.guards.length),sRG 0 r.name l t s,93,none⟩)) (fun s:List Gd=>∃q,al P B7 (W8 r w 0) (sRG 0 r.name l t []) 93 none=some q∧akI r.name l t s q) (aq (fun _ s a=>xO (Sd w) s a) 0 [] r.guards):=by
 have hgl:=h.gl
 have hL:=cE (P:=P) (nt:=93) (lv:=[1,4,6,69,70,71]) (b:=rV) (rd:=none) (as:=r.guards) (fun i (_:List Gd)=>W8 r w i) (sRG 0 r.name l t) (fun _ s a=>xO (Sd w) s a) (akI r.name l t) (fun i s=>s.length=i)
  (fun i g s ha hi hs=>by
   have hm:=mi ha;have Ri:=h.gt g hm;have hr:=aek g w hw (hk g hm) Ri.1 Ri.2.1 (by omega) (by omega)
   have hlt:((i:Int)<r.guards.length)=True:=by simpa using hi
   have hx:=fun σ=>aJ (k:=.i64) (es:=11) (σ:=σ) (ax (f:=Gd.row) ha) g.aB
   unfold xO;cases hxx:Sd w g with
   |some x=>
    rw[hxx]at hr;simp only[ZN]at hr;have hap:=dA (σ:=sRG 0 r.name l t s) (b:=6) (n:=s.length) (e:=lK 11 s) (es:=11) (bytes:=136) (rows:=s.map Gd.row) (new:=[x.row]) rfl (by simp) (qO _ _ _) (by simp only[lH,l5];omega)
    simp only[sRG,z8,tn,lH,l5]at hap;refine⟨fun s' he=>by simp at he;subst he;simp[hs],?_⟩
    simp only[rV];simp(disch:=omega)only[aA,↓aa,seval,-List.reduceReplicate,reduceCtorEq,ae,hlt,aO,hx,bF,aP,PD,hr,avK,aue,TG,alm,sRG,z8,hap,BY,jE,jd,W8]
    try rfl
   |none=>
    rw[hxx]at hr;simp only[ZN]at hr;refine⟨fun s' he=>by simp at he,?_⟩
    simp only[rV];simp(disch:=omega)only[aA,↓aa,seval,-List.reduceReplicate,reduceCtorEq,ae,hlt,aO,hx,bF,aP,PD,hr,CP,als,sRG,z8,akI,W8]
    try rfl) (fun i s=>rfl) [] rfl
 exact hL
def z8n(n:ByteArray):List AV:=[.p (.str n),.aC,.p (.int .i64 0),.p (.int .i64 0),.p (.int .u64 0),.p (.str (bs [])),.aC,.aC]
theorem LR:vl 8 (aW [.p (.str (bs [])),.aC,.p (.int .i64 0),.p (.int .i64 0),.p (.int .u64 0),.p (.str (bs [])),.aC,.aC] [])=some (.ptr 3 1 0 0,[Ag,Ag,Ag,.av 8 [z8 0 1 2] false]):=rfl
theorem QW{n:ByteArray}:k8 [.p (.str (bs [])),.aC,.p (.int .i64 0),.p (.int .i64 0),.p (.int .u64 0),.p (.str (bs [])),.aC,.aC] [(0,1,.p (.str n))]=some (.agg (z8n n)):=rfl
theorem Rj{n:ByteArray}:uW [Ag,Ag,Ag,.av 8 [z8 0 1 2] false] 8 false (cellsOf 8 true (.agg (z8n n)))=some (.ptr 7 1 0 0,EL 0 n []):=rfl
theorem alu:eM [Ag,Ag,Ag,.av 8 [z8 0 1 2] false] 8 (.ptr 3 1 0 0) (.agg [.p (.str (bs [])),.aC,.p (.int .i64 0),.p (.int .i64 0),.p (.int .u64 0),.p (.str (bs [])),.aC,.aC])=some [Ag,Ag,Ag,.av 8 [z8 4 5 6] false,Ag,Ag,Ag]:=rfl
theorem afH{c0 c1 c2 c3 c4 c5 c6 c7:AV}(t:Term):ck 2 (List.map AV.p t.row) [c0,c1,c2,c3,c4,c5,c6,c7]=some [c0,c1,.p (.int .i64 t.op),.p (.int .i64 t.w),.p (.int .u64 t.v),.p (.str t.name),.p (.aM (t.args.map Term.row)),c7]:=by rw[Term.aR];rfl
theorem afQ{σ:ag}{n:ByteArray}{a b:Nat}{c2 c3 c4 c5 c6 c7:AV}:stF σ 7 8 (some [.p (.str n),.sl a b,c2,c3,c4,c5,c6,c7])=some (σ.set 7 (.av 8 [[.p (.str n),.sl a b,c2,c3,c4,c5,c6,c7]] false)):=rfl
theorem Ho{α:Type}{n:Nat}:lK n ([]:List α)=0:=rfl
theorem ane{n:ByteArray}{a b:Nat}{c2 c3 c4 c5 c6 c7:AV}:mkObj 8 [.p (.str n),.sl a b,c2,c3,c4,c5,c6,c7]=.av 8 [[.p (.str n),.sl a b,c2,c3,c4,c5,c6,c7]] false:=rfl
theorem Qv{i j k:Nat}{a b c d e f g:Obj}:eM [a,b,c,.av 8 [z8 i j k] false,d,e,f,g] 8 (.ptr 3 1 0 0) (.agg [.p (.str (bs [])),.aC,.p (.int .i64 0),.p (.int .i64 0),.p (.int .u64 0),.p (.str (bs [])),.aC,.aC])=some [a,b,c,.av 8 [z8 8 9 10] false,d,e,f,g,Ag,Ag,Ag]:=rfl
theorem at2{p0:PV}{a b:Nat}{c2 c3 c4 c5 c6 c7:AV}:ofC true (some [.p p0,.sl a b,c2,c3,c4,c5,c6,c7])=some (.agg [.p p0,.sl a b,c2,c3,c4,c5,c6,c7]):=rfl
theorem avT{i j k x y z q:Nat}{p0 p2 p3 p4 p5 p6:PV}{a b c d e f g:Obj}:eM [a,b,c,.av 8 [z8 i j k] false,d,e,f,g] 8 (.ptr 3 1 0 0) (.agg [.p p0,.sl x y,.p p2,.p p3,.p p4,.p p5,.p p6,.sl z q])=some [a,b,c,.av 8 [[.p p0,.sl x y,.p p2,.p p3,.p p4,.p p5,.p p6,.sl z q]] false,d,e,f,g]:=rfl
theorem at9{n es:Nat}{rows:List (List PV)}{fl:Bool}{a b c d e f g:Obj}:aG [a,b,c,d,e,f,.pv es rows fl,g] 10 (.sl 6 n)=if rows.length=n then some (.aM rows)else none:=rfl
theorem Tk(r:dR)(w:Int)(hw0 : -9223372036854775808≤w∧w≤9223372036854775807)(h:iS r)(hk:∀g∈r.guards,1≤g.kind∧g.kind≤4):R P sZ [.agg r.row,.int .i64 w]=some (.jC (agf w r)):=by
 unfold agf;by_cases hw:1≤w∧w≤64
 rotate_left
 ·rw[if_neg hw]
  by_cases c1:w<1
  ·(rw[yy (aD rfl),oM];simp(disch:=omega)only[aA,↓aa,seval,-List.reduceReplicate,reduceCtorEq,ae,bQ,aZ,LR,c1,CP,alu])
   rw[A3];rfl
  ·have c2:w > 64:=by omega
   (rw[yy (aD rfl),oM];simp(disch:=omega)only[aA,↓aa,seval,-List.reduceReplicate,reduceCtorEq,ae,bQ,aZ,LR,c1,c2,CP,alu])
   rw[A3];rfl
 rw[if_pos hw];have c1:(w<1)=False:=by simp;omega
 have c2:(w > 64)=False:=by simp;omega
 have h0:=aha r w h hw;have f0:=Bo (ZM w) r.left 0 [];have hr:=ym r.right w hw0 h.rt.1 (by have:=h.rt.2;omega)
 rw[if_pos hw]at hr;unfold Ko at hr;unfold atR;cases hl:omap (ZM w) r.left with
 |none=>
  rw[hl]at f0;obtain⟨s,f0⟩:=f0;rw[f0]at h0;obtain⟨⟨e,τ',σ',nt',rd'⟩,k1,k2,k3,k4,k5⟩:=h0
  simp only at k2 k3 k4 k5
  subst k2;subst k5;simp only[W7,EL,Cb,l5,tn]at k1
  (rw[yy (aD rfl),oM];simp(disch:=omega)only[aA,↓aa,seval,-List.reduceReplicate,reduceCtorEq,ae,bQ,aZ,MI,xt,aO,LR,c1,c2,QW,Rj,EL,Ct,k1,k3,k4])
  unfold Ju;rw[A3];rfl
 |some l=>
  rw[hl]at f0;simp only[x9]at f0;rw[f0.1]at h0;obtain⟨_,h0⟩:=h0;simp only[W7,EL,Cb,l5,tn]at h0;cases he:(r.right.mH w).2 with
  |false=>
   rw[he]at hr;simp only[kS,if_false]at hr ⊢
   (rw[yy (aD rfl),oM];simp(disch:=omega)only[aA,↓aa,seval,-List.reduceReplicate,reduceCtorEq,ae,bQ,aZ,MI,xt,RX,aO,LR,c1,c2,QW,Rj,EL,Ct,h0,nR,kY,jT,hr,CP,EL,Qv])
   unfold Ju;rw[A3];rfl
  |true=>
   rw[he]at hr;simp only[if_true]at hr ⊢;have h1:=ahc r w l (r.right.mH w).1 h hk hw;have f1:=Bo (Sd w) r.guards 0 [];cases hg:omap (Sd w) r.guards with
   |none=>
    rw[hg]at f1;obtain⟨s,f1⟩:=f1;rw[f1]at h1;obtain⟨⟨e,τ',σ',nt',rd'⟩,k1,k2,k3,k4,k5⟩:=h1
    simp only at k2 k3 k4 k5
    subst k2;subst k5;simp only[W8,sRG,Ho,Cb,l5,tn]at k1
    (rw[yy (aD rfl),oM];simp(disch:=omega)only[aA,↓aa,seval,-List.reduceReplicate,reduceCtorEq,ae,bQ,aZ,MI,xt,Fj,RX,aO,LR,c1,c2,QW,Rj,EL,Ct,h0,nR,kY,jT,hr,CP,EL,afH,afQ,ane,OK,k1,k3,k4])
    unfold Ju;rw[A3];rfl
   |some gs=>
    rw[hg]at f1;simp only[x9]at f1;rw[f1.1]at h1;obtain⟨_,h1⟩:=h1;simp only[W8,sRG,Ho,Cb,l5,tn]at h1
    (rw[yy (aD rfl),oM];simp(disch:=omega)only[aA,↓aa,seval,-List.reduceReplicate,reduceCtorEq,ae,bQ,aZ,MI,xt,Fj,RX,aO,LR,c1,c2,QW,Rj,EL,Ct,h0,nR,kY,jT,hr,CP,EL,afH,afQ,ane,OK,h1,rV,auc,at2,avT,at9])
    have e:∀x:dR,Ju (some x)=[.agg x.row,.int .i64 0]:=fun _=>rfl
    rw[e,dR.aR]
abbrev sG1(s:List Gd):ag:=[.pv 11 (s.map Gd.row) false]
abbrev Me(l:List Gd)(w:Int)(s:List Gd)(i:Int):List (Nat×AV):=[(0,.p (.aM (l.map Gd.row))),(1,.p (.int .i64 w)),(6,.sl 0 s.length),(7,.p (.int .i64 i))]
def afD(r:Ex×St):Prop:=r.1=.ret∧r.2.τ.get 4=.aC∧r.2.τ.get 5=.p (.int .i64 3)
theorem arl{o:Obj}(g:Gd)(a:Term):RU [o,.pv 11 [g.row] false] 1 1 0 1 (List.map AV.p a.row) (some (.pv 11 [g.row] false))=some [o,.pv 11 [Gd.row ⟨g.kind,a,g.b⟩] false]:=by
 rw[Gd.aR g,Gd.aR ⟨g.kind,a,g.b⟩,Term.aR a];rfl
theorem auu{o:Obj}(g:Gd)(b:Term):RU [o,.pv 11 [g.row] false] 1 1 0 6 (List.map AV.p b.row) (some (.pv 11 [g.row] false))=some [o,.pv 11 [Gd.row ⟨g.kind,g.a,b⟩] false]:=by
 rw[Gd.aR g,Gd.aR ⟨g.kind,g.a,b⟩,Term.aR b];rfl
theorem am5(g:Gd):Mm 1 0 0 1 false (some (.pv 11 [g.row] false))=some (.p (.int .i64 g.kind)):=by rw[Gd.aR];rfl
theorem am6(g:Gd):Mm 1 0 1 5 true (some (.pv 11 [g.row] false))=some (.p (.agg g.a.row)):=by rw[Gd.aR,Term.aR];rfl
theorem ahj(g:Gd):Mm 1 0 6 5 true (some (.pv 11 [g.row] false))=some (.p (.agg g.b.row)):=by rw[Gd.aR,Term.aR g.b];rfl
theorem aoN{z:List AV}:kU [] 11 0 (gz (List.replicate 0 z).flatten [])=some (.sl 0 0,[.pv 11 [] false]):=rfl
theorem avm{s:List Gd}{g:Gd}(hs:s.length≤1000000){r:ag}:zU (.pv 11 (s.map Gd.row) false::r) 11 136 (.sl 0 s.length) (some (.inl [g.row]))=some (.sl 0 (s.length+1),.pv 11 ((s++[g]).map Gd.row) false::r):=by
 rw[dA (σ:=.pv 11 (s.map Gd.row) false::r) (b:=0) (n:=s.length) (e:=11) (es:=11) (rows:=s.map Gd.row) rfl (by simp) (.inl rfl) (by simp only[lH,l5];omega)]
 simp only[BY,sP,Cb,abc,lH,l5,tn]
theorem XM(l:List Gd)(w:Int)(hl:l.length≤1000)(ht:∀g∈l,ia g.a∧ia g.b∧g.a.count≤400∧g.b.count≤400)(hw:1≤w∧w≤64):nC (fun s:List Gd=>s.length=l.length∧al P oP (Me l w [] 0) (sG1 []) 56 none=back P [0,1,6,7] iF 1 (exec P iF ⟨tm (Me l w s l.length),sG1 s,56,none⟩)) (fun s:List Gd=>∃q,al P oP (Me l w [] 0) (sG1 []) 56 none=some q∧afD q) (aq (fun _ s a=>xO (Sd w) s a) 0 [] l):=by
 have hL:=cE (P:=P) (nt:=56) (lv:=[0,1,6,7]) (b:=iF) (rd:=none) (as:=l) (fun i (s:List Gd)=>Me l w s i) sG1 (fun _ s a=>xO (Sd w) s a) (fun _=>afD) (fun i s=>s.length=i)
  (fun i g s ha hi hs=>by
   have hm:=mi ha;have Ri:=ht g hm;have k1:=I0 g.a w ⟨by omega,by omega⟩ Ri.1 (by omega)
   have k2:=I0 g.b w ⟨by omega,by omega⟩ Ri.2.1 (by omega)
   rw[if_pos hw]at k1 k2;have hlt:((i:Int)<l.length)=True:=by simpa using hi
   have hx:=fun σ=>aJ (k:=.i64) (es:=11) (σ:=σ) (ax (f:=Gd.row) ha) g.aB
   have hap:=fun(x:Gd) (r:ag)=>avm (s:=s) (g:=x) (r:=r) (by omega)
   unfold xO Sd;unfold Ko at k1 k2;cases e1:(g.a.mH w).2 with
   |false=>
    rw[e1]at k1;simp only[kS,if_false]at k1 ⊢;refine⟨fun s' he=>by simp at he,?_⟩
    simp only[iF];simp(disch:=omega)only[aA,↓aa,seval,-List.reduceReplicate,reduceCtorEq,ae,hlt,aO,hx,bF,aP,am5,am6,ahj,ux,k1,afD,Me]
    try rfl
   |true=>
    rw[e1]at k1;simp only[if_true]at k1 ⊢;generalize (g.a.mH w).1=a' at *;rcases dB (g.kind=1)with h1|h1
    ·rw[if_pos (of_eq_true h1)]
     refine⟨fun s' he=>by simp at he;subst he;simp[hs],?_⟩
     have d1:=am5 ⟨g.kind,a',g.b⟩
     simp only at d1
     simp only[iF];simp(disch:=omega)only[aA,↓aa,seval,-List.reduceReplicate,reduceCtorEq,ae,hlt,aO,hx,bF,aP,am6,ahj,ux,k1,arl,d1,h1,ahh,TG,alm,hap,sG1,jE,ajr,Me]
     try rfl
    ·rw[if_neg (of_eq_false h1)]
     cases e2:(g.b.mH w).2 with
     |false=>
      rw[e2]at k2;simp only[kS,if_false]at k2 ⊢;refine⟨fun s' he=>by simp at he,?_⟩
      have d1:=am5 ⟨g.kind,a',g.b⟩;have d2:=ahj ⟨g.kind,a',g.b⟩
      simp only at d1 d2
      simp only[iF];simp(disch:=omega)only[aA,↓aa,seval,-List.reduceReplicate,reduceCtorEq,ae,hlt,aO,hx,bF,aP,am6,ahj,ux,k1,k2,arl,auu,d1,d2,h1,afD,Me]
      try rfl
     |true=>
      rw[e2]at k2;simp only[if_true]at k2 ⊢;generalize (g.b.mH w).1=b' at *;refine⟨fun s' he=>by simp at he;subst he;simp[hs],?_⟩
      have d1:=am5 ⟨g.kind,a',g.b⟩;have d2:=ahj ⟨g.kind,a',g.b⟩;have d3:=fun o=>auu (o:=o) ⟨g.kind,a',g.b⟩ b'
      simp only at d1 d2 d3
      simp only[iF];simp(disch:=omega)only[aA,↓aa,seval,-List.reduceReplicate,reduceCtorEq,ae,hlt,aO,hx,bF,aP,am6,ahj,ux,k1,k2,arl,d1,d2,d3,h1,ahh,TG,alm,hap,sG1,jE,ajr,Me]
      try rfl) (fun i s=>rfl) [] rfl
 exact hL
def VX:Option (List Gd)→List PV
 |some gs=>[.aM (gs.map Gd.row),.int .i64 0]
 |none=>[.aM [],.int .i64 3]
theorem Vl(l:List Gd)(w:Int)(hl:l.length≤1000)(ht:∀g∈l,ia g.a∧ia g.b∧g.a.count≤400∧g.b.count≤400)(hw:1≤w∧w≤64):R P og [.aM (l.map Gd.row),.int .i64 w]=some (.jC (VX (omap (Sd w) l))):=by
 have h1:=XM l w hl ht hw;have f1:=Bo (Sd w) l 0 [];cases hg:omap (Sd w) l with
 |none=>
  rw[hg]at f1;obtain⟨s,f1⟩:=f1;rw[f1]at h1;obtain⟨⟨e,τ',σ',nt',rd'⟩,k1,k2,k3,k4⟩:=h1
  simp only at k2 k3 k4
  subst k2;have h':al P oP (Me l w [] 0) [.pv 11 [] false] 56 none=_:=k1;simp only[Me,l5]at h'
  (rw[IS (aD rfl),qC];simp(disch:=omega)only[aA,↓aa,seval,-List.reduceReplicate,reduceCtorEq,ae,aoN,aO,FO,h',k3,k4,VX])
 |some gs=>
  rw[hg]at f1;simp only[x9]at f1;rw[f1.1]at h1;obtain⟨_,h1⟩:=h1;have h':al P oP (Me l w [] 0) [.pv 11 [] false] 56 none=_:=h1;simp only[Me,l5]at h'
  (rw[IS (aD rfl),qC];simp(disch:=omega)only[aA,↓aa,seval,-List.reduceReplicate,reduceCtorEq,ae,aoN,aO,FO,h',iF,kY,VX])
abbrev W0(r:dR)(w:Int)(i:Int):List (Nat×AV):=[(1,.p (.int .i64 w)),(2,.p (.ptr r.row 0)),(4,.ptr 3 1 0 0),(6,.ptr 7 1 0 0),(7,.p (.int .i64 i))]
theorem aqb(r:dR)(w:Int)(h:iS r)(hw:1≤w∧w≤64):nC (fun s:List Atom=>s.length=r.left.length∧al P EZ (W0 r w 0) (EL 0 r.name []) 86 none=back P [1,2,4,6,7] qz 8 (exec P qz ⟨tm (W0 r w r.left.length),EL 0 r.name s,86,none⟩)) (fun s:List Atom=>∃q,al P EZ (W0 r w 0) (EL 0 r.name []) 86 none=some q∧S4 r.name s q) (aq (fun _ s a=>xO (ZM w) s a) 0 [] r.left):=by
 have hll:=h.ll
 have hL:=cE (P:=P) (nt:=86) (lv:=[1,2,4,6,7]) (b:=qz) (rd:=none) (as:=r.left) (fun i (_:List Atom)=>W0 r w i) (EL 0 r.name) (fun _ s a=>xO (ZM w) s a) (S4 r.name) (fun i s=>s.length=i)
  (fun i a s ha hi hs=>by
   have hat:=h.lt a (mi ha);have hr:=I0 a.pat w ⟨by omega,by omega⟩ hat.1 (by omega)
   rw[if_pos hw]at hr;have hlt:((i:Int)<r.left.length)=True:=by simpa using hi
   have hx:=fun σ=>aJ (k:=.i64) (es:=6) (σ:=σ) (ax (f:=Atom.row) ha) a.aB
   unfold xO ZM;unfold Ko at hr;generalize hxx:a.pat.mH w=x at hr;obtain⟨x,ok⟩:=x;cases ok with
   |true=>
    have hap:=dA (σ:=EL 0 r.name s) (b:=4) (n:=s.length) (e:=lK 6 s) (es:=6) (bytes:=80) (rows:=s.map Atom.row) (new:=[Atom.row ⟨a.root,x⟩]) rfl (by simp) (qO _ _ _) (by simp only[lH,l5];omega)
    simp only[EL,z8,tn,lH,l5]at hap;simp only[if_true]at hr ⊢;refine⟨fun s' he=>by simp at he;subst he;simp[hs],?_⟩
    simp only[qz];simp(disch:=omega)only[aA,↓aa,seval,-List.reduceReplicate,reduceCtorEq,ae,hlt,xt,aO,hx,iu,eL,jl,pf,ux,hr,aub,aud,asL,aeW,api,EL,z8,hap,BY,jE,jd,W0]
    try rfl
   |false=>
    simp only[kS,if_false]at hr ⊢;refine⟨fun s' he=>by simp at he,?_⟩
    simp only[qz];simp(disch:=omega)only[aA,↓aa,seval,-List.reduceReplicate,reduceCtorEq,ae,hlt,xt,aO,hx,iu,eL,jl,pf,ux,hr,CP,als,EL,z8,S4,W0]
    try rfl) (fun i s=>rfl) [] rfl
 exact hL
theorem auz{i j k x y:Nat}{p0 p2 p3 p4 p5 p6 p7:PV}{a b c d e f g:Obj}:eM [a,b,c,.av 8 [z8 i j k] false,d,e,f,g] 8 (.ptr 3 1 0 0) (.agg [.p p0,.sl x y,.p p2,.p p3,.p p4,.p p5,.p p6,.p p7])=some [a,b,c,.av 8 [[.p p0,.sl x y,.p p2,.p p3,.p p4,.p p5,.p p6,.p p7]] false,d,e,f,g]:=rfl
theorem aoc{x y:Nat}{n:ByteArray}{rows:List (List PV)}{c2 c3 c4 c5 c6 c7:AV}{a b c d e f g:Obj}:eM [a,b,c,d,e,f,g,.av 8 [[.p (.str n),.sl x y,c2,c3,c4,c5,c6,c7]] false] 1 (.ptr 7 1 0 7) (.p (.aM rows))=some [a,b,c,d,e,f,g,.av 8 [[.p (.str n),.sl x y,c2,c3,c4,c5,c6,.p (.aM rows)]] false]:=rfl
theorem alf(r:dR)(w:Int)(hw0 : -9223372036854775808≤w∧w≤9223372036854775807)(h:iS r):R P y2 [.agg r.row,.int .i64 w]=some (.jC (agf w r)):=by
 unfold agf;by_cases hw:1≤w∧w≤64
 rotate_left
 ·rw[if_neg hw]
  by_cases c1:w<1
  ·(rw[BN (aD rfl),rk];simp(disch:=omega)only[aA,↓aa,seval,-List.reduceReplicate,reduceCtorEq,ae,bQ,aZ,MI,LR,QW,Rj,EL,Cb,l5,tn,c1,CP,Qv])
   rw[A3];rfl
  ·have c2:w > 64:=by omega
   (rw[BN (aD rfl),rk];simp(disch:=omega)only[aA,↓aa,seval,-List.reduceReplicate,reduceCtorEq,ae,bQ,aZ,MI,LR,QW,Rj,EL,Cb,l5,tn,c1,c2,CP,Qv])
   rw[A3];rfl
 rw[if_pos hw];have c1:(w<1)=False:=by simp;omega
 have c2:(w > 64)=False:=by simp;omega
 have h0:=aqb r w h hw;have f0:=Bo (ZM w) r.left 0 [];have hr:=I0 r.right w hw0 h.rt.1 (by have:=h.rt.2;omega)
 rw[if_pos hw]at hr;unfold Ko at hr;unfold atR;cases hl:omap (ZM w) r.left with
 |none=>
  rw[hl]at f0;obtain⟨s,f0⟩:=f0;rw[f0]at h0;obtain⟨⟨e,τ',σ',nt',rd'⟩,k1,k2,k3,k4,k5⟩:=h0
  simp only at k2 k3 k4 k5
  subst k2;subst k5;simp only[W0,EL,Cb,l5,tn]at k1
  (rw[BN (aD rfl),rk];simp(disch:=omega)only[aA,↓aa,seval,-List.reduceReplicate,reduceCtorEq,ae,bQ,aZ,MI,xt,aO,LR,c1,c2,QW,Rj,EL,E7,k1,k3,k4])
  unfold Ju;rw[A3];rfl
 |some l=>
  rw[hl]at f0;simp only[x9]at f0;rw[f0.1]at h0;obtain⟨_,h0⟩:=h0;simp only[W0,EL,Cb,l5,tn]at h0;cases he:(r.right.mH w).2 with
  |false=>
   rw[he]at hr;simp only[kS,if_false]at hr ⊢
   (rw[BN (aD rfl),rk];simp(disch:=omega)only[aA,↓aa,seval,-List.reduceReplicate,reduceCtorEq,ae,bQ,aZ,MI,xt,RX,aO,LR,c1,c2,QW,Rj,EL,E7,h0,qz,kY,ux,hr,CP,Qv])
   unfold Ju;rw[A3];rfl
  |true=>
   rw[he]at hr;simp only[if_true]at hr ⊢;have hg:=Vl r.guards w h.gl h.gt hw;cases hm:omap (Sd w) r.guards with
   |none=>
    rw[hm]at hg;simp only[VX]at hg
    (rw[BN (aD rfl),rk];simp(disch:=omega)only[aA,↓aa,seval,-List.reduceReplicate,reduceCtorEq,ae,bQ,aZ,MI,xt,Fj,RX,aO,LR,c1,c2,QW,Rj,EL,E7,h0,qz,kY,ux,hr,afH,afQ,ane,IK,hg,CP,Qv])
    unfold Ju;rw[A3];rfl
   |some gs=>
    rw[hm]at hg;simp only[VX]at hg
    (rw[BN (aD rfl),rk];simp(disch:=omega)only[aA,↓aa,seval,-List.reduceReplicate,reduceCtorEq,ae,bQ,aZ,MI,xt,Fj,RX,aO,LR,c1,c2,QW,Rj,EL,E7,h0,qz,kY,ux,hr,afH,aue,afQ,ane,IK,hg,aoc,auc,at2,auz])
    have e:∀x:dR,Ju (some x)=[.agg x.row,.int .i64 0]:=fun _=>rfl
    rw[e,dR.aR]
def KA(r:dR):Term:=match r.left with
 |a::_=>a.pat
 | []=>zT
theorem He:∀{l:List Atom},yd l=0→∀a∈l,jZ a=0
 | [],_=>by simp
 |b::l,h=>by
  intro a ha;unfold yd at h;split at h
  ·rename_i h0
   rcases pn.1 ha with rfl|ha
   ·exact h0
   ·exact He h a ha
  ·rename_i h0;exact absurd h h0
theorem vm{a:Atom}(h:jZ a=0):cB a.pat false=0∧(a.root=bs []∨iA a.root=true):=by
 unfold jZ at h;split at h
 ·rename_i h1;exact absurd h h1
 ·rename_i h1
  refine⟨VD.1 h1,?_⟩;split at h
  ·cases h
  ·rename_i h2
   by_cases h3:a.root=bs []
   ·exact .inl h3
   ·right
    cases hn:iA a.root with
    |true=>rfl
    |false=>exact absurd ⟨h3,hn⟩ h2
structure GX (r:dR):Prop where
 nm:iA r.name=true
 t2:t2 r=0
 la:yd r.left=0
 bd:DW r.left=0
 rt:cB r.right true=0
 bo:LU (dU r) (ja r) r.right=true
 wd:t7 r=0
 gd:xj (dU r) (ja r) r.guards=0
theorem IW(r:dR):CF r=0↔GX r:=by
 unfold CF zu;simp only[sP,Cb,Cj];constructor
 ·intro h
  have step:∀{a b:Int},(if a=0 then b else a)=0→a=0∧b=0:=by
   intro a b h;split at h
   ·rename_i h1;exact⟨h1,h⟩
   ·rename_i h1;exact absurd h h1
  obtain⟨h1,h⟩:=step h;obtain⟨h2,h⟩:=step h;obtain⟨h3,h⟩:=step h;obtain⟨h4,h⟩:=step h;obtain⟨h5,h⟩:=step h;obtain⟨h6,h⟩:=step h;obtain⟨h7,h⟩:=step h;obtain⟨h8,h⟩:=step h;refine⟨?_,h2,h3,h4,h5,?_,h7,h8⟩
  ·unfold t1 at h1
   split at h1
   ·assumption
   ·cases h1
  ·unfold t6 at h6
   split at h6
   ·assumption
   ·cases h6
 ·intro h
  have e1:t1 r=0:=by unfold t1;rw[if_pos h.nm]
  have e6:t6 r=0:=by unfold t6;rw[if_pos h.bo]
  simp only[e1,h.t2,h.la,h.bd,h.rt,e6,h.wd,h.gd,if_true]
theorem afg{r:dR}(h:GX r):r.left≠[]∧r.left.length≤4∧r.guards.length≤8:=by
 have:=h.t2;unfold S.t2 at this;split at this
 ·cases this
 ·rename_i h1
  simp only[not_or]at h1;refine⟨fun e=>h1.1 (by rw[e];rfl),by omega,by omega⟩
def JZ(t:Term):Bool:=decide (t.deep≤20∧t.count≤40)
def oY(r:dR):List Term:=rz r++r.guards.map (·.b)
def OQ(r:dR):Bool:=decide (r.left.length≤6) && decide (r.guards.length≤10) && (oY r).all JZ
theorem apZ{n:Nat}{o:Obj}:gc 0 [.sl 0 n] [o]=[o]:=by
 unfold gc;rw[if_neg (by simp),if_neg]
 simp[Cm,below]
theorem aft{n es:Nat}{rows:List (List PV)}{fl:Bool}(h:rows.length=n):OO [.pv es rows fl] (.sl 0 n)=some (.p (.int .i64 n)):=by
 subst h;simp[OO,bJ,aeu,Obj.len]
theorem ZT(r:dR)(hll:r.left.length≤1000)(hgl:r.guards.length≤1000):call P pE [.p (.agg r.row)] []=some (.sl 0 (rz r).length,[.pv 5 ((rz r).map Term.row) false]):=by
 have h0:=UG r hll;have h1:=UH r hgl (r.left.map (·.pat)++[r.right]) (by simp;omega)
 have a1:=fun z=>QT (r:=z) (r.left.map (·.pat)) r.right (by simp;omega)
 simp only[jE,aO,lH,l5,tn]at h1 a1;have h0':al P rH (Sr r [] 0) [.pv 5 [] false] 61 none=_:=h0;simp only[Sr,l5,aO]at h0';simp only[Ss,l5,aO,jE,lH,tn]at h1;unfold rz
 (rw[ft (aD rfl),pE];simp(disch:=omega)only[aA,↓aa,seval,-List.reduceReplicate,reduceCtorEq,ae,bQ,aZ,xt,Fj,RX,apA,aO,Mj,h0',lf,kY,kT,u0,a1,Mk,h1,jk,jE,GS,apZ])
abbrev W4(r:dR)(s:List Term)(i:Int):List (Nat×AV):=[(1,.p (.ptr r.row 0)),(3,.sl 0 s.length),(4,.p (.int .i64 i))]
theorem ajL(r:dR)(s0:List Term)(hgl:r.guards.length≤1000)(h0:s0.length≤100000):al P B1 (W4 r s0 0) (GS s0) 52 none=back P [1,3,4] nQ 1 (exec P nQ ⟨tm (W4 r (s0++r.guards.map (·.b)) r.guards.length),GS (s0++r.guards.map (·.b)),52,none⟩):=by
 obtain⟨_,hL⟩:=ic (P:=P) (nt:=52) (lv:=[1,3,4]) (b:=nQ) (rd:=none) (as:=r.guards) (fun i (s:List Term)=>W4 r s i) GS (fun _ s a=>s++[a.b]) (fun i s=>s.length≤s0.length+i)
  (fun i g s ha hi hs=>by
   refine⟨by simp;omega,?_⟩
   have hlt:((i:Int)<r.guards.length)=True:=by simpa using hi
   have hx:=fun σ=>aJ (k:=.i64) (es:=11) (σ:=σ) (ax (f:=Gd.row) ha) g.aB
   have a1:=fun r=>QT (r:=r) s g.b (by omega)
   simp only[nQ];simp(disch:=omega)only[aA,↓aa,seval,-List.reduceReplicate,reduceCtorEq,ae,hlt,Fj,aO,hx,bF,aP,uV,kT,u0,a1,W4,jE]
   try rfl) (fun i s=>rfl) s0 (by omega) _ (Bp (fun a:Gd=>a.b) r.guards 0 s0)
 exact hL
theorem aqf{l:List Term}{i n:Nat}{t:Term}{fl:Bool}(h:l[i]?=some t)(hn:l.length=n):Mm n i 0 5 true (some (.pv 5 (l.map Term.row) fl))=some (.p (.agg t.row)):=by
 simp only[Mm];rw[aO,if_pos hn,zA,h]
 show((part 0 5 t.row).bind (oG true)).map AV.p=_
 rw[Term.aR];rfl
abbrev NZ(l:List Term)(i:Int):List (Nat×AV):=[(3,.sl 0 l.length),(5,.p (.int .i64 i))]
theorem ajP(l:List Term)(ht:∀t∈l,ia t)(hl:l.length≤100000):nC (fun _:Unit=>True∧al P x7 (NZ l 0) (GS l) 52 none=back P [3,5] nS 1 (exec P nS ⟨tm (NZ l l.length),GS l,52,none⟩)) (fun _:Unit=>∃q,al P x7 (NZ l 0) (GS l) 52 none=some q∧cj 2 (.bool false) (GS l) q) (if l.all JZ=true then .inl ()else .inr ()):=by
 have hL:=cE (P:=P) (nt:=52) (lv:=[3,5]) (b:=nS) (rd:=none) (as:=l) (fun i (_:Unit)=>NZ l i) (fun _=>GS l) (fun _ _ t=>if JZ t=true then .inl ()else .inr ()) (fun(_:Unit)=>cj 2 (.bool false) (GS l)) (fun _ _=>True)
  (fun i t s ha hi hs=>by
   refine⟨fun _ _=>trivial,?_⟩
   have hlt:((i:Int)<l.length)=True:=by simpa using hi
   have hx:jS [.pv 5 (l.map Term.row) false] 5 (.sl 0 l.length) (.p (.int .i64 i))=some (.ptr 0 l.length i 0):=atb (rows:=l.map Term.row) rfl (by simp) hi rfl
   have hd:=aqf (fl:=false) ha rfl;have hln:=aft (n:=l.length) (es:=5) (rows:=l.map Term.row) (fl:=false) (by simp)
   have hg:=YV t (ht t (mi ha)) 20 40 (by decide) (by decide)
   unfold ado at hg;unfold JZ;by_cases h1:t.deep≤20∧t.count≤40
   ·have h1':((t.deep:Int)≤20∧(t.count:Int)≤40):=⟨by omega,by omega⟩
    rw[if_pos h1']at hg;rw[decide_eq_true h1];simp only[nS,if_true];simp(disch:=omega)only[aA,↓aa,seval,-List.reduceReplicate,reduceCtorEq,ae,hlt,hln,hx,hd,Lo,hg,GS,NZ,cj]
   ·have h1':¬((t.deep:Int)≤20∧(t.count:Int)≤40):=by omega
    rw[if_neg h1']at hg;rw[decide_eq_false h1];simp only[nS,kS,if_false];simp(disch:=omega)only[aA,↓aa,seval,-List.reduceReplicate,reduceCtorEq,ae,hlt,hln,hx,hd,Lo,hg,GS,NZ,cj]) (fun i s=>rfl) () trivial
 rw[Oo]at hL;exact hL
theorem Y1(r:dR)(ht:∀t∈oY r,ia t):R P qi [.agg r.row]=some (.bool (OQ r)):=by
 unfold OQ;by_cases g1:r.left.length≤6
 rotate_left
 ·have g1':((r.left.length:Int) > 6)=True:=by simp;omega
  rw[decide_eq_false g1,Dr,Dr]
  (rw[Ax (aD rfl),nA];simp(disch:=omega)only[aA,↓aa,seval,-List.reduceReplicate,reduceCtorEq,ae,bQ,aZ,xt,Fj,aO,g1'])
 have g1':((r.left.length:Int) > 6)=False:=by simp;omega
 rw[decide_eq_true g1,VG];by_cases g2:r.guards.length≤10
 rotate_left
 ·have g2':((r.guards.length:Int) > 10)=True:=by simp;omega
  rw[decide_eq_false g2,Dr]
  (rw[Ax (aD rfl),nA];simp(disch:=omega)only[aA,↓aa,seval,-List.reduceReplicate,reduceCtorEq,ae,bQ,aZ,xt,Fj,aO,g1',g2'])
 have g2':((r.guards.length:Int) > 10)=False:=by simp;omega
 rw[decide_eq_true g2,VG];have hp:=ZT r (by omega) (by omega)
 have hpl:(rz r).length≤100:=by
  have h1:=Cl Co 2 r.guards fun g _=>Hy g
  unfold rz;simp only[jE,aO,lH,l5];omega
 have h0:=ajL r (rz r) (by omega) (by omega)
 have h1:=ajP (oY r) ht (by unfold oY;rw[jE,aO];omega)
 simp only[W4,GS]at h0;simp only[NZ,GS]at h1;have hln:=aft (n:=(oY r).length) (es:=5) (rows:=(oY r).map Term.row) (fl:=false) (by simp)
 have e:rz r++r.guards.map (·.b)=oY r:=rfl;rw[e]at h0;cases hb:(oY r).all JZ with
 |true=>
  rw[hb]at h1;obtain⟨_,h1⟩:=h1
  (rw[Ax (aD rfl),nA];simp(disch:=omega)only[aA,↓aa,seval,-List.reduceReplicate,reduceCtorEq,ae,bQ,aZ,xt,Fj,aO,g1',g2',Ed,hp,HO,h0,nQ,kY,HT,h1,nS,hln])
 |false=>
  rw[hb]at h1;obtain⟨⟨e',τ',σ',nt',rd'⟩,k1,k2,k3,k4⟩:=h1
  simp only at k2 k3 k4
  subst k2;subst k4
  (rw[Ax (aD rfl),nA];simp(disch:=omega)only[aA,↓aa,seval,-List.reduceReplicate,reduceCtorEq,ae,bQ,aZ,xt,Fj,aO,g1',g2',Ed,hp,HO,h0,nQ,kY,HT,k1,k3])
end Go.AE.S
