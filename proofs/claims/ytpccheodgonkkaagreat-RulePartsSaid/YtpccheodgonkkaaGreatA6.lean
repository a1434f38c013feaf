import Derived.Test.YtpccheodgonkkaaGreatA5
import Derived.Test.YtpccheodgonkkaaGreatP0
import Derived.SizedLaws
import Derived.ChangeSame
import Derived.OpenShut
import Derived.ProofKit
import Derived.Test.YtpccheodgonkkaaGreatA3
import Derived.Lib.Bytealg
set_option linter.unusedSimpArgs false
set_option linter.unusedVariables false
namespace Go.AE
open Go.RowKit Go.ChangeShapes
variable {p:Program} {cq:FuncId→Bool}
theorem agd{Pg:Prog}(hP:OX p cq Pg){f:FuncId}{ps:List PV}{r:PV}(h:R Pg f ps=some r){W:World}{vs:List Value}(hl:ps.length=vs.length)
  (hrel:∀(i:Nat) (q:PV) (v:Value),ps[i]?=some q→vs[i]?=some v→dw W (fun b=>b<W.heap.size) q v) :
  Calls p f vs.toArray W fun e W'=>∃u,e=.returned u∧Below W.heap.size W W'∧∃ok,dw W' ok r u:=by
 unfold R at h;simp only[fM]at h;obtain⟨fn,hF,x,hc,hr⟩:=h
 have key:=(sound hP).2.1 fn _ _ _ hc f (hP.fn f fn hF) [] (fun b=>b<W.heap.size) W vs (cE.empty _ _ fun _ h=>h) ⟨by simpa using hl,fun i c v hc hv=>by
  rw[xF,gE]at hc;obtain⟨q,hq,rfl⟩:=hc;exact .p (hrel i q v hq hv)⟩
 refine(callsIn_wide.1 key).mono ?_
 rintro e W' ⟨u,he,own',ok',k1,k2,k3⟩
 have hno:∀r,¬(View.mk [] [] (fun b=>b<W.heap.size) W).owned r:=by rintro r ⟨b,l,o,h1,_⟩;simp at h1
 have henv:=k3.env;simp only[env,pY]at henv;exact⟨u,he,⟨henv.1,henv.2.2,henv.2.1,k3.size,fun b hb=>k3.keep b hb (hno b)⟩,_,Cw k1 depth x.1 r u hr k2⟩
def Ri(P:Program)(t:TypeId)(cells:List PV):PV:=if mV P t=some true then .agg cells else cells.headD .vu
def yo(P:Program):List TypeId→List (List PV)→List PV
 |t::ts,c::cs=>Ri P t c::yo P ts cs
 |_,_=>[]
def Xn(P:Program):List TypeId→List (List PV)→Prop
 | [],[]=>True
 |t::ts,c::cs=>Ty P t c∧Xn P ts cs
 |_,_=>False
theorem agq{P:Program}{W:World}{base:Nat}{t:TypeId}{v:Value}{cells:List PV}(hv:Value.okWide P W .any base t v)(ht:Ty P t cells)(hc:Cells W cells v.cells.toList):dw W (fun b=>b<W.heap.size) (Ri P t cells) v:=by
 have agg:∀cs:Array Value,v=.agg cs→dw W (fun b=>b<W.heap.size) (.agg cells) v:=by
  rintro cs rfl
  have:=dw.agg (w:=W) (ok:=fun b=>b<W.heap.size) cells cs.toList hc.len hc.one hc.rel
  simpa using this
 have one:∀c,cells=[c]→(∀cs,v≠.agg cs)→dw W (fun b=>b<W.heap.size) c v:=by
  rintro c rfl hna
  have hcv:v.cells.toList=[v]:=by cases v<;>first|rfl|exact absurd rfl (hna _)
  rw[hcv]at hc;exact hc.rel 0 c v rfl rfl
 have na:(∀d,P.underlying t=some d→(∀fs,d≠.struct fs)∧(∀n e,d≠.array n e))→∀cs,v≠.agg cs:=by
  rintro hd cs rfl
  unfold Value.okWide at hv;split at hv
  ·rename_i fs hu;exact(hd _ hu).1 fs rfl
  ·rename_i n e hu;exact(hd _ hu).2 n e rfl
  ·unfold Cell.okWide at hv
   split at hv<;>first
    |(rename_i h;cases h;done)
    |(rename_i h _;cases h;done)
    |skip
   all_goals
    unfold Cell.ok at hv;split at hv<;>simp_all
 unfold Ri mV;cases ht with
 |bool _ b h=>rw[h];exact one _ rfl (na (by rw[h];rintro d ⟨⟩;simp))
 |int _ k n h h1 h2=>rw[h];exact one _ rfl (na (by rw[h];rintro d ⟨⟩;simp))
 |str _ s h hs=>rw[h];exact one _ rfl (na (by rw[h];rintro d ⟨⟩;simp))
 |vu _ e h=>rw[h];exact one _ rfl (na (by rw[h];rintro d ⟨⟩;simp))
 |ptr _ e row h hr=>rw[h];exact one _ rfl (na (by rw[h];rintro d ⟨⟩;simp))
 |aW _ e rows h hl hr=>rw[h];exact one _ rfl (na (by rw[h];rintro d ⟨⟩;simp))
 |struct _ fs parts h hl hp=>
  rw[h];unfold Value.okWide at hv;rw[h]at hv;obtain⟨cs,e,_⟩:=hv;exact agg cs e
 |array _ e n parts h hl hp=>
  rw[h];unfold Value.okWide at hv;rw[h]at hv;obtain⟨cs,e,_⟩:=hv;exact agg cs e
section
variable {H:Type} {enc:TypeId×Value→H} {P:Program} {L:List TypeId} {W W':World}
theorem N3(hL:GV P L=true){base:Nat}:∀{ts:List TypeId} {vs:List Value} {ds:List (DataW H)} {ps:List MemPlace},(∀t∈ts,t∈L)→(∀(j:Nat) t v,ts[j]?=some t→vs[j]?=some v→Value.okWide P W .any base t v) →
  DataW.TrodAll enc P W 0 (fun _=>true) true ts vs ds ps→∃cs,Xn P ts cs∧(yo P ts cs).length=vs.length∧∀(i:Nat) (q:PV) (v:Value),(yo P ts cs)[i]?=some q→vs[i]?=some v→dw W (fun b=>b<W.heap.size) q v
 | [],vs,ds,ps,_,_,h=>by
  obtain⟨rfl,rfl,rfl⟩:=trodAll_nil h;exact⟨[],trivial,rfl,by simp[yo]⟩
 |t::ts,vs0,ds0,ps0,ht,hv,h=>by
  obtain⟨v,vs,d,ds,p,q,rfl,rfl,rfl,⟨fuel,h1⟩,h2⟩:=trodAll_cons h;obtain⟨c,c1,c2⟩:=ah2 hL fuel t _ _ _ (ht t (by simp)) h1
  obtain⟨cs,k1,k2,k3⟩:=N3 hL (fun t' h'=>ht t' (by simp[h'])) (fun j t' v' a b=>hv (j+1) t' v' (by simpa using a) (by simpa using b)) h2
  refine⟨c::cs,⟨c1,k1⟩,by simp[yo,k2],fun i q v' hq hv'=>?_⟩
  cases i with
  |zero=>
   simp only[yo,NX,bL]at hq hv';subst hq;subst hv';exact agq (hv 0 t _ rfl rfl) c1 c2
  |succ i=>exact k3 i q v' (by simpa[yo]using hq) (by simpa using hv')
theorem N4(hl:laidOutB P=true)(hb:Below W.heap.size W W'):∀{ts:List TypeId} {vs:List Value} {ds:List (DataW H)} {ps:List MemPlace},(∀t∈ts,P.readableRec t=true∧t<P.types.size)→(∀x∈ps,x.block<W.heap.size) →
  DataW.TrodAll enc P W 0 (fun _=>true) true ts vs ds ps→∀sp:Nat→Bool,(∀x∈ps,sp x.block=true)→DataW.TrodAll enc P W' 0 sp true ts vs ds ps
 | [],vs,ds,ps,_,_,h,sp,_=>by
  obtain⟨rfl,rfl,rfl⟩:=trodAll_nil h;rfl
 |t::ts,vs0,ds0,ps0,ht,hlt,h,sp,hs=>by
  obtain⟨v,vs,d,ds,p,q,rfl,rfl,rfl,h1,h2⟩:=trodAll_cons h;refine⟨p,q,?_,N4 hl hb (fun t' h'=>ht t' (by simp[h'])) (fun x hx=>hlt x (by simp[hx])) h2 sp (fun x hx=>hs x (by simp[hx])),rfl⟩
  exact WideElems.Trod_stays hl (ht t (by simp)).1 (ht t (by simp)).2 h1 (fun x hx=>hb.same (hlt x (by simp[hx]))) (fun x hx=>hs x (by simp[hx]))
end
open Go.RowKit Go.ChangeShapes Go.WideShapes Go.ChangeAt
variable {cq:FuncId→Bool}
theorem VX{C:Checked}{Pg:Prog}(hP:OX C.prog cq Pg){L:List TypeId}(hL:GV C.prog L=true)(hl:laidOutB C.prog=true)(own:ownKnob C.prog.godebug=none)
  {f:FuncId} {fn:Func} (hfn:C.prog.funcs[f]?=some fn) (noInit:C.prog.inits.idxOf? f=none)
  (hin:∀t∈fn.params.toList,t∈L) (hrd:∀t∈fn.params.toList,C.prog.readableRec t=true∧t<C.prog.types.size) {tb:TypeId} (hres:fn.resultTypes = #[tb]) (htb:C.prog.underlying tb=some .bool)
  {s:ChangeSpec} (hvars:s.vars=[]) (hs:∀(H:Type) (ds:List (DataW H)),ds.length=fn.params.toList.length→s.fn H ds={ results:=[.lit (.bool true)],args:=ds })
  (law:∀cs,Xn C.prog fn.params.toList cs→R Pg f (yo C.prog fn.params.toList cs)=some (.bool true))
  {os:Os} (started:os.Started) {H:Type} {enc:TypeId×Value→H} {a:Assume} {conds:List PathCond} {apart fresh handsOn again:Bool}
  (witness:∃(w:World) (tape:Tape) (i:Input),w.os=os∧(w.forCall tape i).Shaped C.prog∧i.vars=[]∧Input.okWide C.prog (w.forCall tape i) .any w.heap.size f i ∧
   s.pre6 enc C.prog fn conds apart (w.forCall tape i).memory i.args∧a.holds C.prog (lone (Frame.enter C.prog f i.args .normal) [] (w.forCall tape i))) :
  ReturnsInHanded a C os f .any (s.pre6 enc C.prog fn conds apart) (s.post enc C.prog fn apart fresh handsOn again):=by
 refine returnsInHanded_of_change_sized own started noInit hfn witness ?_;intro W base args ds gs before hval hW _ _ _;have hW':=hW;obtain⟨p,q,hA,hV,rfl,hfz,hnd⟩:=hW;rw[hvars]at hV
 obtain⟨rfl,rfl⟩:gs=[]∧q=[]:=by
  cases gs with
  |nil=>exact⟨rfl,hV⟩
  |cons a r=>exact hV.elim
 have hval':∀(j:Nat) t v,fn.params.toList[j]?=some t→args.toList[j]?=some v→Value.okWide C.prog W .any base t v:=fun j t v h1 h2=>hval j t v (by simpa using h1) (by simpa using h2)
 obtain⟨cs,c1,c2,c3⟩:=N3 hL hin hval' hA
 have hlen:ds.length=fn.params.toList.length:=by
  have key:∀{ts:List TypeId} {vs:List Value} {ds:List (DataW H)} {ps:List MemPlace},DataW.TrodAll enc C.prog W 0 (fun _=>true) true ts vs ds ps→ds.length=ts.length:=by
   intro ts
   induction ts with
   |nil=>intro vs ds ps h;obtain⟨_,rfl,_⟩:=trodAll_nil h;rfl
   |cons t ts ih=>intro vs ds ps h;obtain⟨v,vs',d,ds',p,q,rfl,rfl,rfl,_,h2⟩:=trodAll_cons h;simp[ih h2]
  exact key hA
 have hcall:=agd hP (law cs c1) (W:=W) (vs:=args.toList) c2 c3;have hargs:args.toList.toArray=args:=by simp
 rw[hargs]at hcall;refine hcall.mono ?_
 rintro e W' ⟨u,he,hb,ok,hu⟩
 cases hu with
 |bool=>
 refine⟨_,he,?_⟩;have hlt:∀x∈p,x.block<W.heap.size:=fun x hx=>hW'.lt x (by simp[hx])
 have hspec:s.fn H (ds++[])={ results:=[.lit (.bool true)],args:=ds }:=by rw[abq];exact hs H ds hlen
 have hresT:∀(b:Nat) (sp:Nat→Bool) (hd:Bool),DataW.TrodAll enc C.prog W' b sp hd fn.resultTypes.toList ((Value.bool true).resultList fn.resultTypes.size) [.lit (.bool true)] []:=by
  intro b sp hd;rw[hres];exact⟨[],[],⟨1,by simp[DataW.trod,htb,Value.cells]⟩,rfl,rfl⟩
 have hstay:=fun sp h=>N4 hl hb hrd hlt hA sp h
 refine⟨ds,[],p++[],[],p,[],hW',?_,?_,?_,?_,fun _=>?_⟩
 ·rw[hspec];exact hresT _ _ _
 ·rw[hspec];exact hstay _ fun x hx=>by simpa using hlt x hx
 ·rw[hvars,hspec];rfl
 ·refine World.keptBut_mono (fun x hx=>⟨hx,.inr (.inl (by simpa using hx))⟩) (hb.frame (· ∈ p++[]))
 ·refine⟨?_,[.lit (.bool true)]++ds,[],([]++p)++[],⟨[]++p,[],trodAll_append (hstay (fun _=>true) fun _ _=>rfl) (hresT _ _ _),(by rw[hvars];rfl),rfl,?_,?_⟩,?_⟩
  ·intro j t r h1 h2
   rw[hres]at h1 h2
   match j,h1,h2 with
   |0,h1,h2=>
    simp[Value.resultList]at h1 h2;subst h1;subst h2;simp[Value.okWide,htb,Cell.okWide,Cell.ok]
  ·intro b off hx
   have hx':MemPlace.cell b off∈p:=by simpa using hx
   rw[hb.frozen (hlt _ hx')];exact hfz b off (by simpa using hx')
  ·intro ha;simpa using hnd ha
  ·intro x hx _;simpa using hx
theorem En:∀(a b:List UInt8),Lib.compareBytes a b=if a=b then 0 else if Op.bytesLess a b then -1 else 1
 | [],[]=>rfl
 | [],_::_=>rfl
 |_::_,[]=>rfl
 |a::as,b::bs=>by
  unfold Lib.compareBytes Op.bytesLess;rw[En as bs];by_cases h1:a<b
  ·have:¬a=b:=fun e=>by subst e;exact absurd h1 (by simp[UInt8.lt_irrefl])
   simp[h1,this]
  ·by_cases h2:b<a
   ·have:¬a=b:=fun e=>by subst e;exact absurd h2 (by simp[UInt8.lt_irrefl])
    simp[h1,h2,this]
   ·have:a=b:=UInt8.le_antisymm (acg.1 h2) (acg.1 h1)
    subst this;simp[h1]
theorem N8(a b:ByteArray):Lib.compareBytes a.data.toList b.data.toList=ti a b:=by
 rw[En];unfold ti;rw[ByteArray.toList_eq,ByteArray.toList_eq]
theorem PE{f:FuncId}{fn:Func}(hf:p.funcs[f]?=some fn)(h1:(fn.name == "runtime.NumGoroutine")=false)(h2:fn.body.isNone=true)(h3:Extern.findNext fn=none)(h4:Extern.find fn=some Extern.BytealgCompare.compare)
  {args:List AV} {σ σ':ae} {v:AV} (h:BT uY args σ=some (v,σ')):jR p cq f args σ v σ':=by
 unfold BT at h;simp only[fM,gE,pY]at h;obtain⟨ps,hps,r,hr,rfl,rfl⟩:=h;refine .inl ⟨ps,r,hps,?_,rfl,rfl⟩;unfold uY at hr;split at hr
 ·rename_i a b
  simp only[bL]at hr;subst hr;intro ok w vs hok hl hrel
  match vs,hl with
  | [x,y],_=>
   have hx:=hrel 0 _ x rfl rfl;have hy:=hrel 1 _ y rfl rfl;cases hx;cases hy;rw[run_callFunc_extern hf h1 h2 h3 h4,Lib.run_compareString,N8];exact⟨ok,.int _ _,fun _ h=>h,fun _ h=>.inl h,hok,qj _,fun _ _=>rfl,rfl⟩
 ·cases hr
end Go.AE
