import Derived.Test.YtpccheodgonkkaaGreatA1
import Derived.OrdersIn
import Derived.Deep.WholeRow
import Derived.Laws.CopyRow
import Derived.Laws.BitsLemmas
set_option linter.unusedSimpArgs false
set_option linter.unusedVariables false
namespace Go.AE
variable {p:Program} {cq:FuncId→Bool}
def Good(p:Program)(cq:FuncId→Bool)(V:View)(r:Result Next)(av:AV)(σ':ae):Prop :=
 ∃v w' own' ok',(r=.ok (.value v) w'∨(r=.ok .skip w'∧v=undef))∧cE p cq ⟨own',σ',ok',w'⟩∧aV ⟨own',σ',ok',w'⟩ av v∧Step V ⟨own',σ',ok',w'⟩
theorem Good.quiet{V:View}(hS:cE p cq V){r:Result Next}{av:AV}{v:Value}(h:r=.ok (.value v) V.w)(hv:aV V av v):Good p cq V r av V.σ :=
 ⟨v,V.w,V.own,V.ok,.inl h,hS,hv,Step.refl V⟩
abbrev pq(w:World)(o:Go.Obj):World:=w.alloc o
theorem wo{w:World}{o:Go.Obj}{r:Nat}(h:r<w.heap.size):(pq w o).heap[r]?=w.heap[r]? := heap_alloc_old w o r h
theorem zg{w:World}{o:Go.Obj}:(pq w o).heap[w.heap.size]?=some o:=heap_alloc_new w o
theorem tC{w:World}{o:Go.Obj}:(pq w o).heap.size=w.heap.size+1:=World.size_alloc w o
theorem CF.mono{V V':View}(e:Ext V V'){cs:List AV}{vs:Array Value}(h:CF V cs vs):CF V' cs vs:=⟨h.1,fun i c v hc hv=>(h.2 i c v hc hv).mono e,h.3⟩
theorem TR{rows:List (List AV)}{ps:List (List PV)}(h:wP rows=some ps):rows=ay ps:=by
 induction rows generalizing ps with
 |nil=>simp only[wP,bL]at h;subst h;rfl
 |cons r rs ih=>
  simp only[wP,fM,gE]at h;obtain⟨q,hq,qs,hqs,rfl⟩:=h;rw[ih hqs,nY hq];rfl
theorem DT(es:Nat)(rows:List (List AV)):∃o:Obj,Bp es rows=o∧o.sh=.vec es rows.length∧o.frozen=false∧o.live=true∧o.M4=some (es,rows.length)∧∀(p:Program) (cq:FuncId→Bool) (V:View) (l:Loc),oT V l es rows→zC p cq V l o:=by
 unfold Bp;cases h:wP rows with
 |none=>exact⟨_,rfl,rfl,rfl,rfl,rfl,fun p cq V l h=>h⟩
 |some ps=>
  have:=TR h;subst this;exact⟨_,rfl,by simp[Obj.sh,ay],rfl,rfl,by simp[Obj.M4,ay],fun p cq V l h=>h⟩
theorem V5(es:Nat)(row:List AV):mkObj es row=Bp es [row]:=by
 unfold mkObj Bp;simp only[wP];cases af row<;>rfl
theorem QV{V:View}{es:Nat}{rows:List (List AV)}{vs:Array Value}{cap r:Nat}{t:TypeId}(hw:∀x∈rows,x.length=es)(h0:es=0→rows=[]→cap=0)(hcap:rows.length≤cap)(hsz:vs.size=cap*es)(hheap:V.w.heap[r]?=some (.cells vs t (0,0)))
  (hc:∀(k:Nat) (a:AV),rows.flatten[k]?=some a→∃v,vs[k]?=some v∧v.oneCell'=true∧aV V a v):oT V ⟨some r,cap⟩ es rows where
 wide:=hw
 cap:=hcap
 nil:=by simp
 hole:=h0
 cells r' hr:=by
  simp only[bL]at hr;subst hr;exact⟨vs,t,hheap,Nat.le_of_eq hsz.symm,hc⟩
theorem cE.ae8{V:View}(hS:cE p cq V){es:Nat}{rows:List (List AV)}{vs:Array Value}{cap:Nat}{t:TypeId}(hw:∀x∈rows,x.length=es)(h0:es=0→rows=[]→cap=0)(hcap:rows.length≤cap)(hsz:vs.size=cap*es)
  (hc:∀(k:Nat) (a:AV),rows.flatten[k]?=some a→∃v,vs[k]?=some v∧v.oneCell'=true∧aV V a v) {w':World} (henv:env w'=env V.w) (hsize:V.w.heap.size<w'.heap.size) (hkeep:∀r,r<V.w.heap.size→w'.heap[r]?=V.w.heap[r]?) (hnew:w'.heap[V.w.heap.size]?=some (.cells vs t (0,0))) :
  cE p cq ⟨V.own++[⟨some V.w.heap.size,cap⟩],V.σ++[Bp es rows],V.ok,w'⟩∧Step V ⟨V.own++[⟨some V.w.heap.size,cap⟩],V.σ++[Bp es rows],V.ok,w'⟩:=by
 obtain⟨o,ho,hsh,hf,hl,hd,hor⟩:=DT es rows;rw[ho];refine hS.push _ o w' henv (by omega) hkeep (by intro r hr;simp only[bL]at hr;subst hr;exact⟨qj _,hsize⟩) (fun e=>hor _ _ _ _ ?_)
 exact QV hw h0 hcap hsz hnew (fun k a ha=>let ⟨v,h1,h2,h3⟩:=hc k a ha;⟨v,h1,h2,h3.mono e⟩)
theorem EU{V:View}{o:Obj}{ok:Nat→Prop}{own:List Loc}{w:World}:(View.mk own (V.σ++[o]) ok w).sh V.σ.length=some o.sh:=by simp[View.sh]
theorem Bl{V:View}(hS:cE p cq V){l:Loc}:(V.own++[l])[V.σ.length]?=some l:=by rw[←hS.len];simp
theorem cE.Ya{V:View}(hS:cE p cq V){es:Nat}{cs:List AV}{vs:Array Value}(t:TypeId)(hes:cs.length=es)(hc:CF V cs vs){w':World}(hw:w'=pq V.w (.cells vs t (0,0))) :
  ∃own',cE p cq ⟨own',V.σ++[mkObj es cs],V.ok,w'⟩∧Step V ⟨own',V.σ++[mkObj es cs],V.ok,w'⟩∧aV ⟨own',V.σ++[mkObj es cs],V.ok,w'⟩ (.ptr V.σ.length 1 0 0) (.pointer (some ⟨V.w.heap.size,0,none⟩)):=by
 subst hw;rw[V5];obtain⟨o,ho,hsh,hf,hl,hd,hor⟩:=DT es [cs]
 have key:=hS.ae8 (es:=es) (rows:=[cs]) (vs:=vs) (cap:=1) (t:=t) (w':=pq V.w (.cells vs t (0,0))) (by simp[hes]) (by simp) (by simp) (by rw[←hc.1,hes,Nat.one_mul]) (fun k a ha=>by
  simp only[abi,List.flatten_nil,abq]at ha;have hk:k<vs.size:=by have:=(gu.1 ha).1;have:=hc.1;omega
  exact⟨vs[k],by simp[hk],hc.3 k _ (by simp[hk]),hc.2 k a _ ha (by simp[hk])⟩) rfl (by simp) (fun r hr=>wo hr) zg
 refine⟨_,key.1,key.2,?_⟩;refine .ptr _ 1 0 0 _ (.vec es 1) (by rw[EU,ho,hsh];rfl) (by intro es' m h;cases h;exact qj _) (fun es' l h1 h2 _=>?_)
 rw[Bl hS,bL]at h2;subst h2;exact⟨_,rfl,by simp⟩
theorem cE.ae7 {V:View} (hS:cE p cq V) {ps:List PV} {vs:Array Value} (t:TypeId) (hc:CF V (ps.map .p) vs) {w':World} (hw:w'=pq V.w (.cells vs t (0,0))) :
    ∃ ok',cE p cq ⟨V.own,V.σ,ok',w'⟩∧Step V ⟨V.own,V.σ,ok',w'⟩∧aV ⟨V.own,V.σ,ok',w'⟩ (.p (.ptr ps 0)) (.pointer (some ⟨V.w.heap.size,0,none⟩)):=by
  subst hw
  have hok:∀ r,V.ok r∨r=V.w.heap.size→r<(pq V.w (.cells vs t (0,0))).heap.size:=by
    rintro r (h | h)
    · have:=hS.xe r h;rw [tC];omega
    · rw [tC];omega
  have e:Ext V ⟨V.own,V.σ,fun r=>V.ok r∨r=V.w.heap.size,pq V.w (.cells vs t (0,0))⟩:=⟨fun r h=>.inl h,fun r h=>wo (hS.xe r h),fun b s hs=>⟨s,hs,s.le_refl rfl⟩⟩
  refine ⟨fun r=>V.ok r∨r=V.w.heap.size,⟨hS.len,?_,hS.one,?_,?_,hok⟩,⟨e,by simp,fun r hr _=>wo hr,?_,fun r hr=>.inl hr,rfl⟩,?_⟩
  · intro b l o hl ho
    cases hlive:o.live with
    | false=>cases o<;>first | trivial | (simp [Obj.live] at hlive)
    | true=>exact zC.mono e (fun r hr=>wo (hS.lt r ⟨b,l,o,hl,ho,hlive,hr⟩)) (hS.obj b l o hl ho)
  · intro b r o hb ho hf hk
    rcases hk with hk | hk
    · exact hS.apart b r o hb ho hf hk
    · have:=hS.lt r ⟨b,hb⟩;omega
  · intro r hr
    have:=hS.lt r hr;rw [tC];omega
  · rintro r (h | h)
    · exact .inl h
    · exact .inr (.inl (by omega))
  · have hl:ps.length=vs.size:=by simpa using hc.1
    have:=dw.ptr (w:=pq V.w (.cells vs t (0,0))) (ok:=fun r=>V.ok r∨r=V.w.heap.size) ps 0 V.w.heap.size 0 (fun k=>vs.getD k undef) (.inr rfl)
      (fun k hk=>by rw [ji zg,sQ];simp [UK,show k<vs.size by omega])
      (fun k hk => by have hk' : k < vs.size := by omega
                      simp only [UK,abm hk',Q2];exact hc.3 k _ (abm hk'))
      (fun k q hq=>by
        have hk':k<vs.size:=by have:=(gu.1 hq).1;omega
        simp only [UK,abm hk',Q2]
        exact ((hc.2 k (.p q) _ (by simp [hq]) (abm hk')).xV).mono e.ok e.keep)
    exact .p this
theorem Gs:∀(cs:List AV) {V:View} (vs:List Value),cE p cq V→cs.length=vs.length→(∀(i:Nat) (c:AV) (v:Value),cs[i]?=some c→vs[i]?=some v→aV V c v) →
  ∃own',cE p cq ⟨own',(aT cs V.σ).2,V.ok,V.w⟩∧Step V ⟨own',(aT cs V.σ).2,V.ok,V.w⟩∧(aT cs V.σ).1.length=vs.length∧∀(i:Nat) (c:AV) (v:Value),(aT cs V.σ).1[i]?=some c→vs[i]?=some v→aV ⟨own',(aT cs V.σ).2,V.ok,V.w⟩ c v:=by
 intro cs
 induction cs with
 |nil=>intro V vs hS hl _;exact⟨V.own,hS,Step.refl V,by simpa[aT]using hl,by simp[aT]⟩
 |cons c cs ih=>
  intro V vs hS hl hr
  match vs,hl with
  |v::vs,hl=>
   have h0:=hr 0 c v rfl rfl
   have plain:c≠.aF→∃own',cE p cq ⟨own',(aT (c::cs) V.σ).2,V.ok,V.w⟩∧Step V ⟨own',(aT (c::cs) V.σ).2,V.ok,V.w⟩∧(aT (c::cs) V.σ).1.length=(v::vs).length∧∀(i:Nat) (d:AV) (u:Value),(aT (c::cs) V.σ).1[i]?=some d→(v::vs)[i]?=some u→aV ⟨own',(aT (c::cs) V.σ).2,V.ok,V.w⟩ d u:=by
    intro hc;obtain⟨own',h1,h2,h3,h4⟩:=ih vs hS (by simpa using hl) (fun i d u hd hu=>hr (i+1) d u (by simpa using hd) (by simpa using hu))
    have he:aT (c::cs) V.σ=(c::(aT cs V.σ).1,(aT cs V.σ).2):=by
     cases c<;>first|rfl|exact absurd rfl hc
    rw[he];refine⟨own',h1,h2,by simpa using h3,fun i d u hd hu=>?_⟩
    cases i with
    |zero=>simp at hd hu;subst hd;subst hu;exact h0.mono h2.ext
    |succ i=>exact h4 i d u (by simpa using hd) (by simpa using hu)
   cases c with
   |aF=>
    obtain⟨h1,h2⟩:=hS.push ⟨none,0⟩ (.pv 0 [] false) V.w rfl (qj _) (fun _ _=>rfl) (by simp) (fun _=>⟨by simp[ay],by simp[ay],fun _=>rfl,fun _ _=>rfl,by simp⟩)
    obtain⟨own',h3,h4,h5,h6⟩:=ih (V:=⟨V.own++[⟨none,0⟩],V.σ++[.pv 0 [] false],V.ok,V.w⟩) vs h1 (by simpa using hl) (fun i d u hd hu=>(hr (i+1) d u (by simpa using hd) (by simpa using hu)).mono h2.ext)
    have he:aT (.aF::cs) V.σ=(.sl V.σ.length 0::(aT cs (V.σ++[.pv 0 [] false])).1,(aT cs (V.σ++[.pv 0 [] false])).2):=rfl;rw[he];refine⟨own',h3,h2.trans h4,by simpa using h5,fun i d u hd hu=>?_⟩
    cases i with
    |zero=>
     simp at hd hu;subst hd;subst hu;cases h0 with
     |aF a=>
      have:aV ⟨V.own++[⟨none,0⟩],V.σ++[.pv 0 [] false],V.ok,V.w⟩ (.sl V.σ.length 0) (.slice a 0 0):=by
       refine .sl _ 0 a 0 (.vec 0 0) (by rw[EU];rfl) (fun _ _ _=>UC _) (fun es l _ hl=>?_)
       rw[Bl hS,bL]at hl;subst hl;exact⟨fun h=>absurd rfl h,rfl⟩
      exact this.mono h4.ext
    |succ i=>exact h6 i d u (by simpa using hd) (by simpa using hu)
   |_=>exact plain (by simp)
theorem adw{V:View}(hS:cE p cq V){v:Value}(hv:aV V .aF v):∃own',cE p cq ⟨own',V.σ++[.pv 0 [] false],V.ok,V.w⟩∧Step V ⟨own',V.σ++[.pv 0 [] false],V.ok,V.w⟩∧aV ⟨own',V.σ++[.pv 0 [] false],V.ok,V.w⟩ (.sl V.σ.length 0) v:=by
 obtain⟨own',h1,h2,_,h4⟩:=Gs [.aF] [v] hS rfl (fun i c u hc hu=>by
  cases i with
  |zero=>simp at hc hu;subst hc;subst hu;exact hv
  |succ i=>simp at hc)
 exact⟨own',h1,h2,h4 0 _ v rfl rfl⟩
theorem Ko{V:View}(hS:cE p cq V){cs:List AV}{vs:Array Value}{s:Nat}(t:TypeId)(hs:cs.length=s)(hc:CF V cs vs){w':World}(hw:w'=pq V.w (.cells vs t (0,0))) :
  ∃own',cE p cq ⟨own',(aT cs V.σ).2++[mkObj s (aT cs V.σ).1],V.ok,w'⟩∧Step V ⟨own',(aT cs V.σ).2++[mkObj s (aT cs V.σ).1],V.ok,w'⟩ ∧
   aV ⟨own',(aT cs V.σ).2++[mkObj s (aT cs V.σ).1],V.ok,w'⟩ (.ptr (aT cs V.σ).2.length 1 0 0) (.pointer (some ⟨V.w.heap.size,0,none⟩)):=by
 obtain⟨own1,h1,h2,h3,h4⟩:=Gs cs vs.toList hS (by simpa using hc.1) (fun i c v h h'=>hc.2 i c v h (by simpa using h'))
 have hlen:(aT cs V.σ).1.length=s:=by rw[h3,←hs,hc.1];simp
 obtain⟨own2,h5,h6,h7⟩:=h1.Ya (es:=s) (cs:=(aT cs V.σ).1) (vs:=vs) t hlen ⟨by simpa using h3,fun i c v h h'=>h4 i c v h (by simpa using h'),hc.3⟩ hw
 exact⟨own2,h5,h2.trans h6,h7⟩
theorem OF{V:View}(hS:cE p cq V){s:Nat}{g:Bool}(hg:g=true∨s=1){x:AV}{v:Value}(hv:aV V x v){cs:List AV}(hcs:cellsOf s g x=some cs)(ro:Bool)(t:TypeId){av:AV}{σ':ae}
  (h:(if ro=true then match af cs with|some ps=>some (AV.p (PV.ptr ps 0),V.σ)|none=>some (.ptr V.σ.length 1 0 0,V.σ++[mkObj s cs])else some (.ptr (aT cs V.σ).2.length 1 0 0,(aT cs V.σ).2++[mkObj s (aT cs V.σ).1]))=some (av,σ')) {w':World} (hw:w'=pq V.w (.cells v.cells t (0,0))) :
  ∃own' ok',cE p cq ⟨own',σ',ok',w'⟩∧Step V ⟨own',σ',ok',w'⟩∧aV ⟨own',σ',ok',w'⟩ av (.pointer (some ⟨V.w.heap.size,0,none⟩)):=by
 obtain⟨hcr,_,h3,h4⟩:=xI hcs hv
 have hlen:cs.length=s:=by
  cases g with
  |true=>exact h4 rfl
  |false=>
   rcases hg with hg|hg
   ·cases hg
   ·rw[(h3 rfl).1,hg];rfl
 split at h
 ·split at h
  ·rename_i ps hps
   cases h;have:=nY hps;subst this;obtain⟨ok',h5,h6,h7⟩:=hS.ae7 t hcr hw;exact⟨V.own,ok',h5,h6,h7⟩
  ·cases h
   obtain⟨own',h5,h6,h7⟩:=hS.Ya t hlen hcr hw;exact⟨own',V.ok,h5,h6,h7⟩
 ·cases h
  obtain⟨own',h5,h6,h7⟩:=Ko hS t hlen hcr hw;exact⟨own',V.ok,h5,h6,h7⟩
theorem aiy{V:View}(hS:cE p cq V){τ:Tm}{a:Act}{o:Oper}{av:AV}{σ':ae}{e:TypeId}{z:List AV}{s:Nat}(hop:o.op=.alloc e)(hz:zeroCells p e=some z)(hs:z.length=s)(hq:plain V.σ τ (.alloc z s)=some (av,σ')):Good p cq V ((execOp a.eval o).run p V.w) av σ':=by
 simp only[plain,bL,pY]at hq;obtain⟨rfl,rfl⟩:=hq;obtain⟨i,zv,hi,hzv,hcr⟩:=zs hz V;obtain⟨own2,h5,h6,h7⟩:=Ko hS e hs hcr rfl;refine⟨_,_,own2,V.ok,.inl ?_,h5,h7,h6⟩;have hzr:(zeroValue e).run p V.w=.ok zv V.w:=by simp[zeroValue,typeInfo,hi,hzv]
 simp[execOp,hop,Instr.alloc,hzr,newVar,newRow]
theorem aiA{V:View}(hS:cE p cq V){τ:Tm}{a:Act}{o:Oper}{av:AV}{σ':ae}{t:TypeId}(hop:o.op=.makeMap t none)(hq:plain V.σ τ .Bq=some (av,σ')):Good p cq V ((execOp a.eval o).run p V.w) av σ':=by
 simp only[plain,bL,pY]at hq;obtain⟨rfl,rfl⟩:=hq
 obtain⟨h1,h2⟩:=hS.push ⟨some V.w.heap.size,0⟩ (.map [] false) (pq V.w (.map #[] 0)) rfl (by rw[tC];omega) (fun r hr=>wo hr) (by intro r hr;simp only[bL]at hr;subst hr;rw[tC];omega)
  (fun _=>⟨V.w.heap.size,#[],0,rfl,zg,rfl,by simp,by simp⟩)
 refine⟨.map (some V.w.heap.size),_,_,_,.inl ?_,h1,?_,h2⟩
 ·simp[execOp,hop,Instr.makeMap]
 ·refine .map _ _ .map (by rw[EU];rfl) (fun _ x hx=>?_)
  rw[Bl hS,bL]at hx;subst hx;rfl
section ops
variable {V:View} {τ:Tm} {nt:Nat} {a:Act} (hS:cE p cq V) (hT:og V τ nt a.tmps) {o:Oper} {av:AV} {σ':ae}
include hS hT
theorem aoW{x:Operand}{x':O}{eg:Bool}(hop:o.op=.move x∨o.op=.assign x)(hx:fD x=some x')(hq:plain V.σ τ (.mv x' eg)=some (av,σ')):Good p cq V ((execOp a.eval o).run p V.w) av σ':=by
 have hv:=bm hT hx;have hrun:(execOp a.eval o).run p V.w=.ok (.value (a.eval x)) V.w:=by rcases hop with h|h<;>simp[execOp,h]
 simp only[plain]at hq;split at hq
 ·rename_i he
  rw[he]at hv;split at hq
  ·cases hq
   obtain⟨own',h1,h2,h3⟩:=adw hS hv;exact⟨_,V.w,own',V.ok,.inl hrun,h1,h3,h2⟩
  ·cases hq
   exact Good.quiet hS hrun hv
 ·cases hq
  exact Good.quiet hS hrun hv
theorem aoV{e:TypeId}{x:Operand}{x':O}{s:Nat}{g ro:Bool}(hop:o.op=.box e x)(hg:g=true∨s=1)(hx:fD x=some x')(hq:plain V.σ τ (.box s g x' ro)=some (av,σ')):Good p cq V ((execOp a.eval o).run p V.w) av σ':=by
 have hv:=bm hT hx;simp only[plain,fM]at hq;obtain⟨cs,hcs,hq⟩:=hq;obtain⟨own',ok',h1,h2,h3⟩:=OF hS hg hv hcs ro e hq rfl;refine⟨_,_,own',ok',.inl ?_,h1,h3,h2⟩;simp[execOp,hop,Instr.box,newVar,newRow]
theorem al2{o':Oper}{d:Nat}{e:TypeId}{x:Operand}{x':O}{s:Nat}{g ro:Bool}{z:List AV}(hop:o.op=.alloc e)(hop':o'.op=.store e (.tmp d) x)(hd:d<nt)(hs:cI p e=some s)(hg:(g=true∨s=1)∧z.length=s)(hz:zeroCells p e=some z)(hx:fD x=some x')
  (hxd:x≠.tmp d) (hq:plain V.σ τ (.init s g x' ro)=some (av,σ')):∃v w1 w' own' ok',(execOp a.eval o).run p V.w=.ok (.value v) w1∧(execOp (a.put (some d) v).eval o').run p w1=.ok .skip w'∧cE p cq ⟨own',σ',ok',w'⟩∧aV ⟨own',σ',ok',w'⟩ av v∧Step V ⟨own',σ',ok',w'⟩:=by
 have hv:=bm hT hx;simp only[plain,fM]at hq;obtain⟨cs,hcs,hq⟩:=hq;obtain⟨hcr,hag,h3,h4⟩:=xI hcs hv
 have hlen:cs.length=s:=by
  cases g with
  |true=>exact h4 rfl
  |false=>
   rcases hg.1 with hg|hg
   ·cases hg
   ·rw[(h3 rfl).1,hg];rfl
 obtain⟨own',ok',h5,h6,h7⟩:=OF hS hg.1 hv hcs ro e hq rfl;obtain⟨i,zv,hi,hzv,hzr⟩:=zs hz V;have hzrun:(zeroValue e).run p V.w=.ok zv V.w:=by simp[zeroValue,typeInfo,hi,hzv]
 refine⟨.pointer (some ⟨V.w.heap.size,0,none⟩),pq V.w (.cells zv.cells e (0,0)),_,own',ok',?_,?_,h5,h7,h6⟩
 ·simp[execOp,hop,Instr.alloc,hzrun,newVar,newRow]
 ·have e1:(a.put (some d) (.pointer (some ⟨V.w.heap.size,0,none⟩))).eval (.tmp d)=.pointer (some ⟨V.w.heap.size,0,none⟩):=by
   have:d<a.tmps.size:=by rw[hT.size];exact hd
   simp[Act.put,Act.eval,this]
  have e2:(a.put (some d) (.pointer (some ⟨V.w.heap.size,0,none⟩))).eval x=a.eval x:=Act.eval_put (fun d' hd'=>by cases hd';exact hxd)
  have hst:=run_storeCells_from (P:=p) V.w.heap.size e (a.eval x).cells.toList 0 zv.cells (pq V.w (.cells zv.cells e (0,0))) zg (by have:=hcr.1;have:=hzr.1;simp;omega) (fun u hu=>by
   obtain⟨k,hk⟩:=Xr hu;exact hcr.3 k u (by simpa using hk))
  have hset:(pq V.w (.cells zv.cells e (0,0))).setRow V.w.heap.size (List.take 0 zv.cells.toList++(a.eval x).cells.toList).toArray=pq V.w (.cells (a.eval x).cells e (0,0)):=by
   have:=World.setRow_alloc_new V.w zv.cells (a.eval x).cells e;simpa using this
  have hsz:(a.eval x).cells.size=s:=by rw[←hcr.1];exact hlen
  simp[execOp,hop',e1,e2,Instr.storeAt,Instr.sureAddr,storeVar,lq hs,hsz];rw[hst,hset];rfl
end ops
theorem xJ{α:Type}(es:Nat):∀(n:Nat) (l:List α),l.length=n*es→(chunk es n l).flatten=l∧(chunk es n l).length=n∧∀x∈chunk es n l,x.length=es
 |0,l,h=>by
  have:l=[]:=Jm.1 (by simpa using h)
  subst this;simp[chunk]
 |n+1,l,h=>by
  have hle:es≤l.length:=by rw[h,Xs];omega
  obtain⟨h1,h2,h3⟩:=xJ es n (l.drop es) (by rw[ab4,h,Xs];omega)
  refine⟨by simp[chunk,h1],by simp[chunk,h2],?_⟩
  intro x hx;simp only[chunk,qL]at hx;rcases hx with rfl|hx
  ·simp[hle]
  ·exact h3 x hx
theorem xm{α:Type}{n:Nat}{z:List α}:∀x∈List.replicate n z,x.length=z.length:=by
 intro x hx;rw[List.mem_replicate]at hx;rw[hx.2]
theorem Ny{α:Type}{n:Nat}{z:List α}{k:Nat}{a:α}(h:(List.replicate n z).flatten[k]?=some a):k<n*z.length∧0<z.length∧z[k % z.length]?=some a:=by
 obtain⟨i,j,row,rfl,hi,hj⟩:=pj xm h;have hi':=(gu.1 hi);obtain⟨hil,hie⟩:=hi';rw[List.getElem_replicate]at hie;subst hie;rw[aca]at hil;have hjl:=(gu.1 hj).1;refine⟨?_,by omega,?_⟩
 ·calc i*z.length+j<i*z.length+z.length:=by omega
   _=(i+1)*z.length:=(Xs i z.length).symm
   _≤n*z.length:=Jn _ (by omega)
 ·rw[Nat.add_comm,Nat.add_mul_mod_self_right,acj hjl]
  exact hj
abbrev F7(z:Array Value)(n:Nat):Array Value:=(Array.range n).map (z[· % z.size]!)
theorem acB{z:Array Value}{n k:Nat}(hk:k<n)(hz:0<z.size):∃v,(F7 z n)[k]?=some v∧z[k % z.size]?=some v:=by
 have hm:k % z.size<z.size:=NY _ hz;exact⟨z[k % z.size],by simp[hk,hm],by simp[hm]⟩
theorem G5{V:View}{z:List AV}{zv:Array Value}(hc:CF V z zv){n m:Nat}(hn:n≤m){k:Nat}{a:AV}(h:(List.replicate n z).flatten[k]?=some a):∃v,(F7 zv (m*z.length))[k]?=some v∧v.oneCell'=true∧aV V a v:=by
 obtain⟨h1,h2,h3⟩:=Ny h;have hz:0<zv.size:=by rw[←hc.1];exact h2
 obtain⟨v,hv,hv'⟩:=acB (z:=zv) (n:=m*z.length) (Q7 h1 (Jn _ hn)) hz;rw[←hc.1]at hv';exact⟨v,hv,hc.3 _ v hv',hc.2 _ a v h3 hv'⟩
theorem My{V:View}{z:List AV}{zv:Array Value}(hc:CF V z zv)(n:Nat):CF V (List.replicate n z).flatten (F7 zv (n*z.length)):=by
 have hl:(List.replicate n z).flatten.length=n*z.length:=by rw[bU xm];simp
 refine⟨by rw[hl];simp,fun k a v ha hv=>?_,fun k v hv=>?_⟩
 ·obtain⟨u,hu,_,hr⟩:=G5 hc (qj n) ha
  rw[hu,bL]at hv;subst hv;exact hr
 ·have hk:k<n*z.length:=by have:=(Q6.1 hv).1;simpa using this
  obtain⟨u,hu,h1,_⟩:=G5 hc (qj n) (oh (by rw[hl];exact hk):(List.replicate n z).flatten[k]?=some _)
  rw[hu,bL]at hv;subst hv;exact h1
theorem Br{V:View}(hS:cE p cq V){es n cap:Nat}{rows:List (List AV)}{vs:Array Value}(t:TypeId)(hes:0<es)(hw:∀x∈rows,x.length=es)(hn:rows.length=n)(hcap:n≤cap)(hsz:vs.size=cap*es)
  (hc:∀(k:Nat) (a:AV),rows.flatten[k]?=some a→∃v,vs[k]?=some v∧v.oneCell'=true∧aV V a v) {w1 w':World} (henv:env w1=env V.w) (hheap:w1.heap=V.w.heap) (hw':w'=pq w1 (.cells vs t (0,0))) {o:Obj} (hsh:o.sh=.vec es rows.length) (hor:∀(V:View) (l:Loc),oT V l es rows→zC p cq V l o) :
  cE p cq ⟨V.own++[⟨some V.w.heap.size,cap⟩],V.σ++[o],V.ok,w'⟩∧Step V ⟨V.own++[⟨some V.w.heap.size,cap⟩],V.σ++[o],V.ok,w'⟩ ∧
   aV ⟨V.own++[⟨some V.w.heap.size,cap⟩],V.σ++[o],V.ok,w'⟩ (.sl V.σ.length n) (.slice (some ⟨V.w.heap.size,0,none⟩) n cap):=by
 subst hw';have hsize:(pq w1 (.cells vs t (0,0))).heap.size=V.w.heap.size+1:=by rw[tC,hheap]
 have hold:∀r,r<V.w.heap.size→(pq w1 (.cells vs t (0,0))).heap[r]?=V.w.heap[r]? := fun r hr=>by rw[wo (by rw[hheap];exact hr),hheap]
 have hnew:(pq w1 (.cells vs t (0,0))).heap[V.w.heap.size]?=some (.cells vs t (0,0)):=by rw[←hheap];exact zg
 obtain⟨h1,h2⟩:=hS.push ⟨some V.w.heap.size,cap⟩ o (pq w1 (.cells vs t (0,0))) henv (by omega) hold (by intro r hr;simp only[bL]at hr;subst hr;exact⟨qj _,by omega⟩)
  (fun e=>hor _ _ (QV hw (fun h=>by omega) (by omega) hsz hnew (fun k a ha=>let ⟨v,h1,h2,h3⟩:=hc k a ha;⟨v,h1,h2,h3.mono e⟩)))
 refine⟨h1,h2,.sl _ n _ cap (.vec es n) (by rw[EU,hsh,hn]) (fun es' m h=>by cases h;exact qj _) (fun es' l _ hl=>?_)⟩
 rw[Bl hS,bL]at hl;subst hl;exact⟨fun _=>rfl,rfl⟩
section ops
variable {V:View} {τ:Tm} {nt:Nat} {a:Act} (hS:cE p cq V) (hT:og V τ nt a.tmps) {o:Oper} {av:AV} {σ':ae}
include hS hT
omit hS in
theorem JB{t e:TypeId}{n s:Nat}{parts:Array (Nat×Operand)}{z:List AV}{ps:List (Nat×Nat×O)}(hop:o.op=.buildSlice t n parts)(ht:p.underlying t=some (.slice e))(hs:cI p e=some s)(hz:zeroCells p e=some z)
  (hp:omap (fun x:Nat×Operand=>(fD x.2).map fun o=>(x.1,s,o)) parts.toList=some ps) (hzs:z.length=s) (h0:0<s) (hbig:n*s≤2^24) {cs:List AV} (hf:gK ((List.replicate n z).flatten) (ps.map fun x=>(x.1*s,x.2.1,x.2.2.val τ))=some cs) :
  ∃vo:Array Value,CF V cs vo∧cs.length=n*s∧(execOp a.eval o).run p V.w=.ok (.value (.slice (some ⟨V.w.heap.size,0,none⟩) n n)) (pq V.w (.cells vo e (0,0))):=by
 obtain⟨i,zv,hi,hzv,hcr⟩:=zs hz V;obtain⟨h1,h2⟩:=iP hp;have hzrun:∀w,(zeroValue e).run p w=.ok zv w:=fun w=>by simp[zeroValue,typeInfo,hi,hzv]
 obtain⟨vo,h3,h4⟩:=PM (place:=fun i=>some (i*s,s)) (ps.map fun x=>(x.1*s,x.2.1,x.2.2.val τ)) ((parts.map fun(i,x)=>(i,a.eval x)).toList) _ (F7 zv.cells (n*z.length)) cs (My hcr n) hf (by simp[h1]) (by
  intro k x y hx hy;rw[xF,gE]at hx;obtain⟨x',hx',rfl⟩:=hx;rw[abJ,xF,gE]at hy;obtain⟨y',hy',rfl⟩:=hy;obtain⟨b,hb,hab⟩:=h2 k y' hy';rw[hx',bL]at hb;subst hb;simp only[gE]at hab;obtain⟨oo,hoo,rfl⟩:=hab;exact⟨rfl,bm hT hoo⟩)
 have hcl:cs.length=n*s:=by
  have e1:vo.size=(F7 zv.cells (n*z.length)).size:=by
   have:∀(ps:List (Nat×Nat×AV)) (c out:List AV),gK c ps=some out→out.length=c.length:=by
    intro ps
    induction ps with
    |nil=>intro c out h;simp only[gK,bL]at h;rw[h]
    |cons x ps ih=>
     intro c out h;obtain⟨off,size,v⟩:=x;unfold gK at h;split at h
     ·split at h
      ·simp only[fM]at h
       obtain⟨c',hput,h⟩:=h;rw[ih _ _ h,(pt hput).1]
      ·cases h
     ·cases h
   have:=this _ _ _ hf;rw[←h4.1,this,(My hcr n).1]
  rw[h4.1,e1];simp[hzs]
 refine⟨vo,h4,hcl,?_⟩;have hb1:¬(16777216<n*s):=by simpa using hbig
 rw[hzs]at h3;by_cases hn0:n=0
 ·subst hn0
  have h3':Instr.fill (fun i=>some (i*s,s)) #[] (parts.map fun(i,x)=>(i,a.eval x)).toList=some vo:=by simpa[F7,show Array.range 0 = #[]from rfl]using h3
  simp only[abJ]at h3';simp[execOp,hop,Instr.buildSlice,bp ht,lq hs,newRow,show Array.range 0 = #[]from rfl,h3']
 ·have hns:n*s≠0:=Nat.mul_ne_zero hn0 (by omega)
  simp only[F7,abJ]at h3;simp[execOp,hop,Instr.buildSlice,bp ht,lq hs,newRow,hb1,hns,hzrun,h3]
theorem afW{t e:TypeId}{n s:Nat}{parts:Array (Nat×Operand)}{z:List AV}{ps:List (Nat×Nat×O)}(hop:o.op=.buildSlice t n parts)(ht:p.underlying t=some (.slice e))(hs:cI p e=some s)(hz:zeroCells p e=some z)
  (hp:omap (fun x:Nat×Operand=>(fD x.2).map fun o=>(x.1,s,o)) parts.toList=some ps) (hzs:z.length=s) (h0:0<s) (hbig:n*s≤2^24) (hq:plain V.σ τ (.fB s z n ps)=some (av,σ')):Good p cq V ((execOp a.eval o).run p V.w) av σ':=by
 simp only[plain,gE]at hq;obtain⟨cs,hf,hq⟩:=hq;simp only[pY]at hq;obtain⟨rfl,rfl⟩:=hq;obtain⟨vo,h4,hcl,hrun⟩:=JB hT hop ht hs hz hp hzs h0 hbig hf;obtain⟨hc1,hc2,hc3⟩:=xJ s n cs hcl;obtain⟨ob,hob,hsh,hfz,hlive,hdim,hor⟩:=DT s (chunk s n cs);rw[hob]
 obtain⟨k1,k2,k3⟩:=Br hS (es:=s) (n:=n) (cap:=n) (rows:=chunk s n cs) (vs:=vo) e h0 hc3 hc2 (qj _) (by rw[←h4.1,hcl]) (fun k x hx=>by
  rw[hc1]at hx;have hk:k<vo.size:=by have:=(gu.1 hx).1;rw[h4.1]at this;exact this
  exact⟨vo[k],by simp[hk],h4.3 k _ (by simp[hk]),h4.2 k x _ hx (by simp[hk])⟩) (w1:=V.w) rfl rfl rfl hsh (fun V l=>hor p cq V l)
 exact⟨_,_,_,_,.inl hrun,k1,k3,k2⟩
theorem aiz{t e:TypeId}{n s:Nat}{parts:Array (Nat×Operand)}{z:List AV}{ps:List (Nat×Nat×O)}(hop:o.op=.buildSlice t n parts)(ht:p.underlying t=some (.slice e))(hs:cI p e=some s)(hz:zeroCells p e=some z)
  (hp:omap (fun x:Nat×Operand=>(fD x.2).map fun o=>(x.1,s,o)) parts.toList=some ps) (hzs:z.length=s) (h0:0<s) (hbig:n*s≤2^24) (hq:plain V.σ τ (.jY s z n ps)=some (av,σ')):Good p cq V ((execOp a.eval o).run p V.w) av σ':=by
 simp only[plain,gE,fM]at hq;obtain⟨qs,⟨cs,hf,hqs⟩,hq⟩:=hq;simp only[pY]at hq;obtain⟨rfl,rfl⟩:=hq;obtain⟨vo,h4,hcl,hrun⟩:=JB hT hop ht hs hz hp hzs h0 hbig hf;have:=nY hqs;subst this;obtain⟨ok',k1,k2,k3⟩:=hS.ae7 e h4 rfl;refine⟨_,_,V.own,ok',.inl hrun,k1,?_,k2⟩;rw[bz]at hcl;obtain⟨hc1,hc2,hc3⟩:=xJ s n qs hcl;by_cases hn:n=0
 ·subst hn
  exact .p (.GJ _ _)
 ·cases k3 with
  |p k3=>
   generalize hb:(some ⟨V.w.heap.size,0,none⟩:Option Addr)=ad at k3 ⊢;cases k3 with
   |ptr row o r off cv hok hcell hone h=>
    have key:=dw.aW (w:=pq V.w (.cells vo e (0,0))) (ok:=ok') (chunk s n qs) r off n s cv (by intro h0;rw[h0]at hc2;simp at hc2;omega) hok (by rw[hc2];exact qj _) hc3
     (by rw[hc2,←hcl];exact hcell) (by rw[hc2,←hcl];exact hone) (by rw[hc1];exact h)
    rw[hc2]at key;exact .p key
end ops
def Obj.lU : Obj→Option (Nat×List (List AV))
 |.pv es rows _=>some (es,ay rows)
 |.av es rows _=>some (es,rows)
 |_=>none
theorem lU_rel{o:Obj}{es:Nat}{rows:List (List AV)}(h:o.lU=some (es,rows)):o.sh=.vec es rows.length∧o.live=true∧∀(p:Program) (cq:FuncId→Bool) (V:View) (l:Loc),zC p cq V l o↔oT V l es rows:=by
 cases o<;>simp only[Obj.lU,bL,pY,reduceCtorEq]at h
 ·obtain⟨rfl,rfl⟩:=h
  exact⟨by simp[Obj.sh,ay],rfl,fun _ _ _ _=>Iff.rfl⟩
 ·obtain⟨rfl,rfl⟩:=h
  exact⟨rfl,rfl,fun _ _ _ _=>Iff.rfl⟩
theorem Tj{α β:Type}(f:α→β){off:Nat}{new row r:List α}(h:b9 off new row=some r):b9 off (new.map f) (row.map f)=some (r.map f):=by
 obtain⟨h1,rfl⟩:=so h;unfold b9;rw[if_pos (by simpa using h1)]
 simp[acm,List.map_drop]
theorem WU{rows:List (List PV)}{i:Nat}{r:List PV}:ay (rows.set i r)=(ay rows).set i (r.map .p):=by simp[ay,List.map_set]
theorem QO{σ σ':ae}{b n i o:Nat}{new:List AV}(h:setRow σ b n i o new=some σ'):∃ob ob' es rows row row',σ[b]?=some ob∧ob.frozen=false∧ob.lU=some (es,rows)∧rows.length=n∧rows[i]?=some row∧b9 o new row=some row'∧ob'.lU=some (es,rows.set i row')∧σ'=σ.set b ob':=by
 unfold setRow at h;split at h
 ·rename_i es rows ho
  split at h
  ·rename_i hn
   simp only[fM]at h;obtain⟨r,hr,h⟩:=h;split at h
   ·rename_i ps hps
    simp only[gE]at h;obtain⟨r',hr',rfl⟩:=h;have:=nY hps;subst this;exact⟨_,.pv es (rows.set i r') false,es,ay rows,r.map .p,r'.map .p,ho,rfl,rfl,by rw[dU];exact hn,Aa hr,Tj _ hr',by simp only[Obj.lU,WU],rfl⟩
   ·simp only[gE]at h
    obtain⟨r',hr',rfl⟩:=h;exact⟨_,.av es _ false,es,ay rows,r.map .p,r',ho,rfl,rfl,by rw[dU];exact hn,Aa hr,hr',rfl,rfl⟩
  ·cases h
 ·rename_i es rows ho
  split at h
  ·rename_i hn
   simp only[fM,gE]at h;obtain⟨r,hr,r',hr',rfl⟩:=h;refine⟨_,_,es,rows,r,r',ho,rfl,rfl,hn,hr,hr',?_,rfl⟩;split
   ·rename_i r'' heq
    split
    ·rename_i ps hps
     rw[heq,nY hps];rfl
    ·rw[heq]
     rfl
   ·rfl
  ·cases h
 ·cases h
theorem adH{α:Type}{rows:List (List α)}{es i o:Nat}{row row' new:List α}(hes:∀x∈rows,x.length=es)(hi:rows[i]?=some row)(hp:b9 o new row=some row'){k:Nat}{a:α}(h:(rows.set i row').flatten[k]?=some a) :
  (i*es+o≤k∧k<i*es+o+new.length∧new[k-(i*es+o)]?=some a)∨(¬(i*es+o≤k∧k<i*es+o+new.length)∧rows.flatten[k]?=some a):=by
 obtain⟨g1,g2⟩:=pt hp;obtain⟨g3,_⟩:=so hp;have hrow:row.length=es:=hes row (mK hi)
 have hes':∀x∈rows.set i row',x.length=es:=by
  intro x hx;rcases List.mem_or_eq_of_mem_set hx with h|rfl
  ·exact hes x h
  ·rw[g1,hrow]
 obtain⟨i2,j,rw2,rfl,h2,h3⟩:=pj hes' h
 have hj:j<es:=by
  have:=(gu.1 h3).1;rw[hes' rw2 (mK h2)]at this;exact this
 have hil:i<rows.length:=(gu.1 hi).1;by_cases e:i2=i
 ·subst e
  rw[Xp hil,bL]at h2;subst h2;rw[g2 j]at h3;split at h3
  ·rename_i hin
   exact .inl ⟨by omega,by omega,by rw[show i2*es+j-(i2*es+o)=j-o by omega];exact h3⟩
  ·rename_i hin
   exact .inr ⟨by omega,gL hes hi h3⟩
 ·rw[O0 (fun h=>e h.symm)]at h2
  refine .inr ⟨?_,gL hes h2 h3⟩;rcases Nat.lt_or_gt_of_ne e with hlt|hlt
  ·have:=Jn es (Nat.succ_le_of_lt hlt)
   rw[Xs]at this;omega
  ·have:=Jn es (Nat.succ_le_of_lt hlt)
   rw[Xs]at this;omega
theorem Mg{α:Type}{l:List α}{i:Nat}{a:α}(h:l[i]?=some a):l.set i a=l:=by
 apply List.ext_getElem?;intro j;by_cases e:i=j
 ·subst e
  rw[Xp (gu.1 h).1,h]
 ·rw[O0 e]
theorem als{V:View}(hS:cE p cq V){b n i o:Nat}{cs:List AV}{av:Value}{vs:List Value}{σ':ae}(ha:aV V (.ptr b n i o) av)(hl:cs.length=vs.length)(h1:∀v∈vs,v.oneCell'=true)(hr:∀(k:Nat) (c:AV) (v:Value),cs[k]?=some c→vs[k]?=some v→aV V c v)
  (h:setRow V.σ b n i o cs=some σ'):∃a w',av=.pointer (some a)∧(storeCells a vs 0).run p V.w=.ok () w'∧cE p cq ⟨V.own,σ',V.ok,w'⟩∧Step V ⟨V.own,σ',V.ok,w'⟩:=by
 obtain⟨ob,ob',es,rows,row,row',ho,hfz,hrows,hn,hrow,hput,hrows',rfl⟩:=QO h;obtain⟨l,hl'⟩:=hS.nA ho;obtain⟨s1,s2,s3⟩:=lU_rel hrows;obtain⟨t1,t2,t3⟩:=lU_rel hrows';have hvec:=(s3 p cq V l).1 (hS.obj b l ob hl' ho);have hil:i<rows.length:=(gu.1 hrow).1;cases ha with
 |ptr _ _ _ _ a s hs hnn hp=>
 have hs':s=.vec es n:=by
  rw[←hn,←s1];simpa[View.sh,ho]using hs.symm
 obtain⟨r,hb,rfl⟩:=hp es l hs' hl' (by omega)
 obtain⟨c,t,hheap,hsize,hcells⟩:=hvec.cells r hb;obtain⟨g1,g2⟩:=pt hput;obtain⟨g3,_⟩:=so hput;have hrl:row.length=es:=hvec.wide row (mK hrow)
 have hbound:i*es+o+vs.length≤c.size:=by
  rw[←hl];have e1:(i+1)*es≤l.cap*es:=Jn _ (UO hil hvec.cap);rw[Xs]at e1;omega
 have hst:=run_storeCells_at p r (i*es+o) t vs 0 c V.w hheap (by simpa using hbound) h1
 simp only[ace]at hst;have hrlt:r<V.w.heap.size:=(Q6.1 hheap).1;generalize hc':(List.take (i*es+o) c.toList++vs++List.drop (i*es+o+vs.length) c.toList).toArray=c' at hst
 have hget:∀k,c'[k]?=if i*es+o≤k∧k<i*es+o+vs.length then vs[k-(i*es+o)]? else c[k]? := by
  intro k
  have hp':b9 (i*es+o) vs c.toList=some (List.take (i*es+o) c.toList++vs++List.drop (i*es+o+vs.length) c.toList):=by
   unfold b9;rw[if_pos (by simpa using hbound)]
  have:=(pt hp').2 k;rw[←hc'];simpa using this
 have hcsz:c'.size=c.size:=by
  rw[←hc'];simp
  omega
 have key:=hS.Mp (l':=l) (o':=ob') (w':=V.w.setRow r c') hl' ho hfz (by rw[s1,t1];simp[Sh.le]) rfl (by simp) (fun r' hr' hne=>setRow_other _ _ _ _ (fun hx=>hne (by rw[hx];exact hb))) (fun r' _ hr'=>.inl hr') (fun e=>(t3 p cq _ l).2 ⟨?_,?_,hvec.nil,?_,?_⟩)
 ·rw[Mg hl']at key
  exact⟨_,_,rfl,hst,key.1,key.2⟩
 ·intro x hx
  rcases List.mem_or_eq_of_mem_set hx with h|rfl
  ·exact hvec.wide x h
  ·rw[g1,hrl]
 ·simpa using hvec.cap
 ·intro h0 hnil
  have:rows=[]:=by simpa using congrArg List.length hnil
  exact hvec.hole h0 this
 ·intro r' hr'
  rw[hb,bL]at hr';subst hr';refine⟨c',t,setRow_heap _ _ _ _ _ _ hheap,by rw[hcsz];exact hsize,fun k x hx=>?_⟩
  rcases adH hvec.wide hrow hput hx with⟨k1,k2,k3⟩|⟨k1,k2⟩
  ·have hk:k-(i*es+o)<vs.length:=by omega
   refine⟨vs[k-(i*es+o)],by rw[hget,if_pos ⟨k1,by omega⟩];simp[hk],h1 _ (UJ hk),(hr _ x _ k3 (oh hk)).mono e⟩
  ·obtain⟨v,v1,v2,v3⟩:=hcells k x k2
   exact⟨v,by rw[hget,if_neg (by rw[←hl];exact k1)];exact v1,v2,v3.mono e⟩
theorem FQ{α:Type}{kl:mg}{k:PV}{v:α}:∀{es es':List (PV×α)},sG kl k v es=some es'→(findKey kl k es=some none∧es'=es++[(k,v)])∨∃j x a,findKey kl k es=some (some a)∧es[j]?=some (x,a)∧ni kl k x=some true∧(∀i,i<j→∀y,es[i]?=some y→ni kl k y.1=some false)∧es'=es.set j (k,v)
 | [],es',h=>by
  simp only[sG,bL]at h;subst h;exact .inl ⟨rfl,rfl⟩
 |e::r,es',h=>by
  unfold sG at h;split at h
  ·rename_i heq
   cases h;exact .inr ⟨0,e.1,e.2,by simp[findKey,heq],rfl,heq,by omega,rfl⟩
  ·rename_i heq
   simp only[gE]at h;obtain⟨r',hr',rfl⟩:=h;rcases FQ hr' with⟨h1,rfl⟩|⟨j,x,a,h1,h2,h3,h4,rfl⟩
   ·exact .inl ⟨by simp[findKey,heq,h1],rfl⟩
   ·refine .inr ⟨j+1,x,a,by simp[findKey,heq,h1],by simpa using h2,h3,fun i hi y hy=>?_,rfl⟩
    cases i with
    |zero=>simp at hy;subst hy;exact heq
    |succ i=>exact h4 i (by omega) y (by simpa using hy)
  ·cases h
theorem T6{kl:mg}{a b:PV}(h:ni kl a b=some true){w:World}{ok:Nat→Prop}{va vb:Value}(ha:dw w ok a va)(hb:dw w ok b vb)(n:Nat):Instr.sameBits n vb va=true:=by
 unfold ni at h;split at h
 ·cases ha;cases hb
  split at h
  ·rename_i hk
   simp only[bL,beq_iff_eq]at h;subst hk;subst h;simp[Instr.sameBits]
  ·cases h
 ·cases ha;cases hb
  rename_i s s';simp only[bL,beq_iff_eq]at h;simp[Instr.sameBits,beq_toListBytes,h]
 ·cases ha;cases hb
  simp only[bL,beq_iff_eq]at h;subst h;simp[Instr.sameBits]
 ·cases h
theorem aV.ahi{V:View}{b:Nat}{v:Value}(h:aV V (.map b) v):∃r s,v=.map (some r)∧V.sh b=some s∧(s=.map→∀x,V.own[b]?=some x→x.iL=some r):=by
 cases h with
 |map _ r s hs h=>exact⟨r,s,rfl,hs,h⟩
section ops
variable {V:View} {τ:Tm} {nt:Nat} {a:Act} (hS:cE p cq V) (hT:og V τ nt a.tmps) {o:Oper} {av:AV} {σ':ae}
include hS hT
theorem aiB{t:TypeId}{x y:Operand}{x' y':O}{s:Nat}(hop:o.op=.store t x y)(hs:cI p t=some s)(hx:fD x=some x')(hy:fD y=some y')(hq:plain V.σ τ (.store s x' y')=some (av,σ')):Good p cq V ((execOp a.eval o).run p V.w) av σ':=by
 have hvx:=bm hT hx;have hvy:=bm hT hy;simp only[plain,gE,pY]at hq;obtain⟨σ1,hq,rfl,rfl⟩:=hq;unfold eE at hq;split at hq
 ·rename_i b n i oo hxe
  rw[hxe]at hvx;split at hq
  ·rename_i cs hcs
   split at hq
   ·rename_i hlen
    obtain⟨hcr,_,_,_⟩:=xI hcs hvy;obtain⟨own1,k1,k2,k3,k4⟩:=Gs cs (a.eval y).cells.toList hS (by simpa using hcr.1) (fun i c v h h'=>hcr.2 i c v h (by simpa using h'))
    obtain⟨ad,w',e1,e2,e3,e4⟩:=als k1 (hvx.mono k2.ext) (by rw[k3]) (fun v hv=>by
     obtain⟨k,hk⟩:=Xr hv;exact hcr.3 k v (by simpa using hk)) k4 hq
    refine⟨undef,w',own1,V.ok,.inr ⟨?_,rfl⟩,e3,.any _,k2.trans e4⟩;have hsz:(a.eval y).cells.size=s:=by rw[←hcr.1];exact hlen
    simp[execOp,hop,e1,Instr.storeAt,Instr.sureAddr,storeVar,lq hs,hsz];rw[e2];rfl
   ·cases hq
  ·cases hq
 ·cases hq
theorem acy{t e:TypeId}{x y:Operand}{x' y':O}{s by':Nat}{z:List AV}(hop:o.op=.makeSlice t x y)(ht:p.underlying t=some (.slice e))(hs:cI p e=some s)(hz:zeroCells p e=some z)(hb:CD p e=some by')(hx:fD x=some x')(hy:fD y=some y')
  (hzs:z.length=s) (h0:0<s) (hb0:0<by') (hq:plain V.σ τ (.uh s by' z x' y')=some (av,σ')):Good p cq V ((execOp a.eval o).run p V.w) av σ':=by
 have hvx:=bm hT hx;have hvy:=bm hT hy;simp only[plain,fM]at hq;obtain⟨l,hl,c,hc,hq⟩:=hq;split at hq
 ·rename_i hle
  obtain⟨kx,ex⟩:=tx hl hvx;obtain⟨ky,ey⟩:=tx hc hvy;obtain⟨i,zv,hi,hzv,hcr⟩:=zs hz V
  have hobj:∃ob:Obj,av=.sl V.σ.length l∧σ'=V.σ++[ob]∧ob.lU=some (s,List.replicate l z):=by
   split at hq
   ·rename_i ps hps
    cases hq;refine⟨_,rfl,rfl,?_⟩;have:=nY hps;subst this;simp[Obj.lU,ay]
   ·cases hq
    exact⟨_,rfl,rfl,rfl⟩
  obtain⟨ob,rfl,rfl,hrows⟩:=hobj;obtain⟨s1,s2,s3⟩:=lU_rel hrows;obtain⟨k1,k2,k3⟩:=Br hS (es:=s) (n:=l) (cap:=c) (rows:=List.replicate l z) (vs:=F7 zv.cells (c*z.length)) e h0 (by rw[←hzs];exact xm) (by simp) hle.1 (by simp[hzs]) (fun k x hx=>G5 hcr hle.1 hx) (w1:=V.w) rfl rfl rfl s1 (fun V l=>(s3 p cq V l).2)
  refine⟨_,_,_,_,.inl ?_,k1,k3,k2⟩;have hc47:c≤140737488355328:=UO (Nat.le_mul_of_pos_right c hb0) hle.2;have hl47:l≤140737488355328:=UO hle.1 hc47;have hwc:IntKind.i64.wrap (c:Int)=(c:Int):=by rw[IntKind.wrap_i64];omega
  have hwl:IntKind.i64.wrap (l:Int)=(l:Int):=by rw[IntKind.wrap_i64];omega
  unfold CD at hb;simp only[hi,vd,bL]at hb
  have hbig:¬(281474976710656<(i.bytes:Int)*(c:Int)):=by
   have:c*by'≤140737488355328:=hle.2;rw[←hb,Nat.mul_comm]at this;have h':((i.bytes*c:Nat):Int)≤((140737488355328:Nat):Int):=Int.ofNat_le.2 this;rw[ack]at h';omega
  have hzrun:∀w,(zeroValue e).run p w=.ok zv w:=fun w=>by simp[zeroValue,typeInfo,hi,hzv]
  have h1:¬((c:Int)<0):=by omega
  have h2:¬((l:Int)<0):=by omega
  have h3:¬((c:Int)<(l:Int)):=by have:=hle.1;omega
  rw[hzs];by_cases hc0:c=0
  ·subst hc0
   have hl0:l=0:=by have:=hle.1;omega
   subst hl0;simp[execOp,hop,ex,ey,Instr.makeSlice,bp ht,lq hs,typeInfo,hi,asInt,asIntOf,newRow,show Array.range 0 = #[]from rfl,show IntKind.i64.wrap 0=0 from rfl,F7]
  ·have hcs:c*s≠0:=Nat.mul_ne_zero hc0 (by omega)
   simp[execOp,hop,ex,ey,Instr.makeSlice,bp ht,lq hs,typeInfo,hi,asInt,asIntOf,newRow,hwc,hwl,hbig,h1,h2,h3,hcs,hzrun]
 ·cases hq
theorem al3{t kt e:TypeId}{m k v:Operand}{m' k' v':O}{kl:mg}(hop:o.op=.mapUpdate t m k v)(ht:p.underlying t=some (.map kt e))(hl:mi p kt=some kl)(hm:fD m=some m')(hk:fD k=some k')(hv:fD v=some v')(hq:plain V.σ τ (.Qb kl m' k' v')=some (av,σ')) :
  Good p cq V ((execOp a.eval o).run p V.w) av σ':=by
 have hvm:=bm hT hm;have hvk:=bm hT hk;have hvv:=bm hT hv;simp only[plain]at hq;split at hq
 ·rename_i b kp hme hke
  rw[hme]at hvm;rw[hke]at hvk;have hkr:=hvk.xV;obtain⟨r,s,em,hsh,hmp⟩:=hvm.ahi;split at hq
  ·rename_i es ho
   split at hq
   ·rename_i hleaf
    simp only[gE,pY]at hq;obtain⟨es',hset,rfl,rfl⟩:=hq;obtain⟨l,hol⟩:=hS.nA ho;obtain⟨r',en,clock,hb,hM⟩:=hS.obj b l _ hol ho;have hs':s=.map:=by simpa[View.sh,ho,Obj.sh]using hsh.symm
    have:r=r':=by
     have:=hmp hs' l hol;rw[hb,bL]at this;exact this.symm
    subst this;obtain⟨d,hd⟩:=EW hl;have hck:=fun w=>run_checkKey hl hleaf hkr false 9999 w
    have hget:(getObj r).run p V.w=.ok (.map en clock) V.w:=by simp[getObj,Sem.run,hM.heap]
    have hrlt:r<V.w.heap.size:=(Q6.1 hM.heap).1;have hputo:∀ob:Go.Obj,(setObj r ob).run p V.w=.ok () { V.w with heap:=V.w.heap.setIfInBounds r ob }:=fun ob=>by simp[setObj,Sem.run,hM.heap]
    have fin:∀(en':Array MapEntry) (clock':Nat),es'.length=en'.size→(∀(i:Nat) (q:PV×AV) (x:MapEntry),es'[i]?=some q→en'[i]?=some x→dw V.w V.ok q.1 x.key∧aV V q.2 x.val) →
      (execOp a.eval o).run p V.w=.ok .skip { V.w with heap:=V.w.heap.setIfInBounds r (.map en' clock') }→Good p cq V ((execOp a.eval o).run p V.w) .any (V.σ.set b (.map es' false)):=by
     intro en' clock' hlen hrel hrun
     have key:=hS.Mp (l':=l) (o':=.map es' false) (w':={ V.w with heap:=V.w.heap.setIfInBounds r (.map en' clock') }) hol ho rfl (by simp[Obj.sh,Sh.le]) rfl (by simp) (fun r' hr' hne=>by
      have:r≠r':=fun hx=>hne (by rw[←hx];exact hb)
      simp[this]) (fun r' _ hr'=>.inl hr') (fun ee=>⟨r,en',clock',hb,⟨by simp[hrlt],hlen,fun i q x h1 h2=>((hrel i q x h1 h2).1).mono ee.ok ee.keep,fun i q x h1 h2=>((hrel i q x h1 h2).2).mono ee⟩⟩)
     rw[Mg hol]at key;exact⟨undef,_,_,_,.inr ⟨hrun,rfl⟩,key.1,.any _,key.2⟩
    rcases FQ hset with⟨h1,rfl⟩|⟨j,x,av0,h1,h2,h3,h4,rfl⟩
    ·obtain⟨f1,_⟩:=zK hl hd hkr es en.toList 0 _ (by simpa using hM.len) (fun i x e hx he=>hM.key i x e hx (by simpa using he)) h1
     have hfk:=fun w=>run_findKey (p:=p) hd (f1 rfl) w
     refine fin (en.push { key:=a.eval k,val:=a.eval v,born:=clock }) (clock+1) (by simp[hM.len]) ?_ ?_
     ·intro i q y hq hy
      by_cases hi:i<es.length
      ·rw[ym hi]at hq
       rw[Array.getElem?_push,if_neg (by have:=hM.len;omega)]at hy
       exact⟨hM.key i q y hq hy,hM.val i q y hq hy⟩
      ·have hil:=(gu.1 hq).1
       have hie:i=es.length:=by simp at hil;omega
       subst hie;rw[Array.getElem?_push,if_pos hM.len]at hy;simp at hq hy;subst hq;subst hy;exact⟨hkr,hvv⟩
     ·simp[execOp,hop,em,Instr.mapUpdate,bp ht,hget,hck,hfk,hputo]
    ·obtain⟨_,f2⟩:=zK hl hd hkr es en.toList 0 _ (by simpa using hM.len) (fun i x e hx he=>hM.key i x e hx (by simpa using he)) h1
     obtain⟨j',ee,x',g1,g2,g3,g4,g5⟩:=f2 _ rfl
     have hj:j'=j:=by
      rcases Nat.lt_trichotomy j' j with h|h|h
      ·have:=h4 j' h _ g2
       rw[g4]at this;cases this
      ·exact h
      ·have:=g5 j h _ h2
       rw[h3]at this;cases this
     subst hj;have hfk:=fun w=>run_findKey (p:=p) hd g1 w
     have g3':en[j']?=some ee:=by simpa using g3
     have hsame:=T6 g4 hkr (hM.key j' _ ee g2 g3') 10000;refine fin (en.modify j' fun e=>{ e with key:=a.eval k,val:=a.eval v }) clock (by simp[hM.len]) ?_ ?_
     ·intro i q y hq hy
      by_cases hi:i=j'
      ·subst hi
       have hlt:=(gu.1 h2).1;rw[Xp hlt,bL]at hq;subst hq;rw[abp]at hy;simp[g3']at hy;subst hy;exact⟨hkr,hvv⟩
      ·rw[O0 (fun h=>hi h.symm)]at hq
       rw[abp,if_neg (fun h=>hi h.symm)]at hy
       exact⟨hM.key i q y hq hy,hM.val i q y hq hy⟩
     ·simp only[sQ]at hfk
      simp[execOp,hop,em,Instr.mapUpdate,bp ht,hget,hck,hfk,hputo,g3',Instr.keyThatStays,hsame]
   ·cases hq
  ·cases hq
 ·cases hq
end ops
def Src.rows:Src→List (List AV)
 |.inl ps=>ay ps
 |.inr vs=>vs
theorem Src.H3(s:Src):s.rows.length=s.count:=by cases s<;>simp[Src.rows,Src.count,ay]
section run
variable {T:Array TypeId} {t t1 e ty:TypeId} {d:TypeDesc} {i:TypeInfo} {z:Value} {args:Array Value} {vy:Value} {n sLen sCap:Nat} {w:World}
theorem tK{base:Option Addr}(hT0:T[0]?=some t)(ht:p.underlying t=some (.slice e))(hT1:T[1]?=some t1)(hd:p.underlying t1=some d)(hd':∀k,d≠.int k)(hi:p.info? e=some i)(hz:i.zero=some z)
  (ha0:args[0]?=some (.slice base sLen sCap)) (ha1:args[1]?=some vy) (hlen:∀w,(Builtin.lenOf vy).run p w=.ok n w) (hg:sCap<sLen+n) (hb0:0<i.bytes) (hb:(sLen+n)*i.bytes≤140737488355328) {old new:Array Value}
  (hold:(Builtin.firstCells i.size sLen (.slice base sLen sCap)).run p w.drew=.ok old w.drew) (hnew:(Builtin.firstCells i.size n vy).run p w.drew=.ok new w.drew) :
  (Builtin.append_ T ty args).run p w=.ok (.slice (some ⟨w.heap.size,0,none⟩) (sLen+n) (grownCap w (sLen+n) sCap e)) (w.drew.alloc (.cells (old++new++Builtin.zeroCells z.cells (grownCap w (sLen+n) sCap e-(sLen+n))) e)):=by
 have hn:¬(sLen+n≤sCap):=by omega
 have hfit:¬(281474976710656<Builtin.nextslicecap (sLen+n) sCap*i.bytes):=by have:=growslice_fits hg hb;omega
 have hb0':i.bytes≠0:=by omega
 simp[Builtin.append_,hT0,hT1,ha0,ha1,run_underlying ht,run_underlying hd,sizeOf,typeInfo,zeroValue,hi,hz,hlen,hn,hb0',hfit,Question.forced,hold,hnew,newRow,grownCap]
theorem uk{base:Option Addr}(hT0:T[0]?=some t)(ht:p.underlying t=some (.slice e))(hT1:T[1]?=some t1)(hd:p.underlying t1=some d)(hd':∀k,d≠.int k)(hi:p.info? e=some i)
  (ha0:args[0]?=some (.slice base sLen sCap)) (ha1:args[1]?=some vy) (hlen:∀w,(Builtin.lenOf vy).run p w=.ok n w) (hg:sLen+n≤sCap) {new:Array Value}
  (hnew:(Builtin.firstCells i.size n vy).run p w=.ok new w) {w':World} (hst:∀a,base=some a→(storeCells (a.add (sLen*i.size)) new.toList).run p w=.ok () w') (hno:base=none→w'=w) :
  (Builtin.append_ T ty args).run p w=.ok (.slice base (sLen+n) sCap) w':=by
 cases base with
 |none=>
  have:=hno rfl;subst this;simp[Builtin.append_,hT0,hT1,ha0,ha1,run_underlying ht,run_underlying hd,sizeOf,typeInfo,hi,hlen,hg,hnew]
 |some a=>
  have:=hst a rfl;simp[Builtin.append_,hT0,hT1,ha0,ha1,run_underlying ht,run_underlying hd,sizeOf,typeInfo,hi,hlen,hg,hnew,this]
end run
theorem nL{s:Nat}{a:Option Addr}{n c:Nat}{w:World}:(Builtin.firstCells s 0 (.slice a n c)).run p w=.ok #[] w:=by
 cases a with
 |none=>simp[Builtin.firstCells]
 |some a=>exact run_firstCells_some w s 0 a n c [] (by simp) (by simp)
theorem Src.facts{V:View}(hS:cE p cq V){es:Nat}{y:AV}{vy:Value}{new:Src}(h:mB V.σ es y=some new)(hv:aV V y vy) :
  ∃news:List Value,news.length=new.count*es∧(∀w,(Builtin.lenOf vy).run p w=.ok new.count w)∧(∀w,w.heap=V.w.heap→(Builtin.firstCells es new.count vy).run p w=.ok news.toArray w)∧(∀x∈new.rows,x.length=es) ∧
   ∀(k:Nat) (a:AV),new.rows.flatten[k]?=some a→∃v,news[k]?=some v∧v.oneCell'=true∧aV V a v:=by
 have obj:∀(b n:Nat) (ob:Obj) (e:Nat) (rows:List (List AV)),y=.sl b n→V.σ[b]?=some ob→ob.lU=some (e,rows)→rows.length=n→(e=es∨rows=[])→new.count=n→new.rows=rows →
   ∃news:List Value,news.length=new.count*es∧(∀w,(Builtin.lenOf vy).run p w=.ok new.count w)∧(∀w,w.heap=V.w.heap→(Builtin.firstCells es new.count vy).run p w=.ok news.toArray w)∧(∀x∈new.rows,x.length=es) ∧
   ∀(k:Nat) (a:AV),new.rows.flatten[k]?=some a→∃v,news[k]?=some v∧v.oneCell'=true∧aV V a v:=by
  intro b n ob e rows hy ho hrows hn he hc hr;subst hy;rw[hc,hr];obtain⟨s1,s2,s3⟩:=lU_rel hrows;obtain⟨l,hl⟩:=hS.nA ho;have hvec:=(s3 p cq V l).1 (hS.obj b l ob hl ho);cases hv with
  |sl _ _ a c s hs hnn hp=>
  have hs':s=.vec e n:=by
   rw[←hn,←s1];simpa[View.sh,ho]using hs.symm
  obtain⟨ha,hcap⟩:=hp e l hs' hl;by_cases hnil:rows=[]
  ·subst hnil
   have hn0:n=0:=by simpa using hn.symm
   subst hn0;exact⟨[],by simp,by simp[Builtin.lenOf],fun w _=>nL,by simp,by simp⟩
  ·have he':e=es:=by rcases he with h|h;exact h;exact absurd h hnil
   subst he';have hpos:0<rows.length:=ab1.2 hnil;have hc0:l.cap≠0:=by have:=hvec.cap;omega
   have ha:=ha hc0;subst ha;cases hb:l.iL with
   |none=>exact absurd (hvec.nil hb) hc0
   |some r=>
    obtain⟨cc,ct,hheap,hsize,hcells⟩:=hvec.cells r hb;have hbound:n*e≤cc.size:=by refine UO ?_ hsize;rw[←hn];exact Jn _ hvec.cap
    have hfl:=bU hvec.wide;refine⟨cc.toList.take (n*e),by simp;omega,by simp[Builtin.lenOf],fun w hw=>?_,hvec.wide,fun k x hx=>?_⟩
    ·have haddr:l.addr=some ⟨r,0,none⟩:=by simp[Loc.addr,hb]
     rw[haddr];refine run_firstCells_some w e n ⟨r,0,none⟩ n c (cc.toList.take (n*e)) (by simp;omega) (fun j v hj=>?_)
     rw[eG,wT (w:=V.w) (by rw[hw]),ji hheap,sQ]
     rw[Uy]at hj;split at hj
     ·simpa using hj
     ·cases hj
    ·obtain⟨v,v1,v2,v3⟩:=hcells k x hx
     have hk:k<n*e:=by have:=(gu.1 hx).1;rw[hfl,hn]at this;exact this
     exact⟨v,by rw[Uy,if_pos hk];simpa using v1,v2,v3⟩
 unfold mB at h;split at h
 ·rename_i rows
  split at h
  ·rename_i hw
   cases h
   have hwide:∀x∈rows,x.length=es:=by
    intro x hx;simp only[wide,AS,beq_iff_eq]at hw;exact hw x hx
   obtain⟨a,c,rfl,hle,hrel⟩:=B9 hv;by_cases hnil:rows=[]
   ·subst hnil
    exact⟨[],by simp[Src.count],by simp[Builtin.lenOf,Src.count],fun w _=>nL,by simp[Src.rows,ay],by simp[Src.rows,ay]⟩
   ·obtain⟨r,off,es',rfl,hok,hes',cv,h1,h2,h3⟩:=hrel hnil
    have hee:es'=es:=by
     obtain⟨x,hx⟩:=abH rows hnil;rw[←hes' x hx,hwide x hx]
    subst hee;refine⟨(List.range (rows.length*es')).map cv,by simp[Src.count],by simp[Builtin.lenOf,Src.count],fun w hw=>?_,?_,fun k x hx=>?_⟩
    ·refine run_firstCells_some w es' rows.length ⟨r,off,none⟩ rows.length c _ (by simp) (fun j v hj=>?_)
     have hjl:j<rows.length*es':=by have:=(gu.1 hj).1;simpa using this
     have:cv j=v:=by simpa[hjl]using hj
     subst this;rw[eG,wT (w:=V.w) (by rw[hw])]
     exact h1 _ hjl
    ·intro x hx
     simp only[Src.rows,ay,CV]at hx;obtain⟨r',hr',rfl⟩:=hx;rw[bz];exact hwide r' hr'
    ·have hk:k<rows.length*es':=by
      have:=(gu.1 hx).1;rw[show(Src.rows (.inl rows))=ay rows from rfl,kj,bz,bU hwide]at this;exact this
     rw[show(Src.rows (.inl rows))=ay rows from rfl,kj,xF,gE]at hx;obtain⟨q,hq,rfl⟩:=hx;exact⟨cv k,by simp[hk],h2 k hk,.p (h3 k q hq)⟩
  ·cases h
 ·cases h
  cases hv;exact⟨[],by simp[Src.count],by simp[Builtin.lenOf,Src.count],fun w _=>nL,by simp[Src.rows,ay],by simp[Src.rows,ay]⟩
 ·rename_i s
  split at h
  ·rename_i he
   cases h;subst he;rw[hv.FV];have hcnt:Src.count (.inl (s.data.toList.map fun b=>[PV.int .u8 b.toNat]))=s.size:=by simp[Src.count]
   rw[hcnt];refine⟨s.data.toList.map fun b=>Value.int .u8 b.toNat,by simp,by simp[Builtin.lenOf],fun w _=>?_,?_,fun k x hx=>?_⟩
   ·simp only[Builtin.firstCells,Sem.run_pure,Result.ok.injEq,and_true]
    have hx:(s.extract 0 s.size).data=s.data:=by
     have hs:s.size=s.data.size:=rfl;rw[ByteArray.data_extract,hs,Array.extract_size]
    rw[hx];apply Array.ext';simp
   ·intro x hx
    simp only[Src.rows,ay,CV]at hx;obtain⟨r,⟨b,_,rfl⟩,rfl⟩:=hx;rfl
   ·have:(Src.rows (.inl (s.data.toList.map fun b=>[PV.int .u8 b.toNat]))).flatten=s.data.toList.map fun b=>AV.p (.int .u8 b.toNat):=by
     simp only[Src.rows,ay,abW]
     induction s.data.toList with
     |nil=>rfl
     |cons b r ih=>simp_all
    rw[this,xF,gE]at hx;obtain⟨b,hb,rfl⟩:=hx;exact⟨_,by rw[xF,hb];rfl,rfl,.p (.int _ _)⟩
  ·cases h
 ·rename_i b n
  split at h
  ·rename_i e rows _ ho
   split at h
   ·rename_i hc
    cases h;exact obj b n _ e (ay rows) rfl ho rfl (by rw[dU];exact hc.1) (hc.2.imp id fun h=>by simp[ay,List.isEmpty_iff.1 h]) (by simp[Src.count,hc.1]) rfl
   ·cases h
  ·rename_i e rows _ ho
   split at h
   ·rename_i hc
    cases h;exact obj b n _ e rows rfl ho rfl hc.1 (.inl hc.2) (by simp[Src.count,hc.1]) rfl
   ·cases h
  ·cases h
 ·cases h
theorem M7{es:Nat}{o o':Obj}{new:Src}(h:I7 es o new=some o'):∃e rows,o.lU=some (e,rows)∧o.frozen=false∧(e=es∨(e=0∧rows=[]))∧o'.lU=some (es,rows++new.rows)∧∀(σ:ae) (b:Nat),σ[b]?=some o→∃self:Src,mB σ es (.sl b rows.length)=some self∧self.rows=rows:=by
 unfold I7 at h;split at h
 ·split at h
  ·rename_i e rows ps he
   cases h;refine⟨e,ay rows,rfl,rfl,he.imp id fun h=>⟨h.1,by simp[ay,List.isEmpty_iff.1 h.2]⟩,by simp[Obj.lU,Src.rows,ay],fun σ b hb=>⟨.inl rows,?_,rfl⟩⟩
   simp only[mB,hb,dU];rw[if_pos ⟨trivial,he.imp id fun h=>h.2⟩]
  ·cases h
 ·split at h
  ·rename_i e rows ps he
   cases h;refine⟨e,ay rows,rfl,rfl,he.imp id fun h=>⟨h.1,by simp[ay,List.isEmpty_iff.1 h.2]⟩,by simp[Obj.lU,Src.rows,ay],fun σ b hb=>⟨.inl rows,?_,rfl⟩⟩
   simp only[mB,hb,dU];rw[if_pos ⟨trivial,he.imp id fun h=>h.2⟩]
  ·cases h
 ·split at h
  ·rename_i e rows ps he
   cases h;refine⟨e,rows,rfl,rfl,.inl he,by simp[Obj.lU,Src.rows,ay],fun σ b hb=>⟨.inr rows,?_,rfl⟩⟩
   simp only[mB,hb];rw[if_pos ⟨trivial,he⟩]
  ·cases h
 ·split at h
  ·rename_i e rows ps he
   cases h;refine⟨e,rows,rfl,rfl,.inl he,by simp[Obj.lU,Src.rows],fun σ b hb=>⟨.inr rows,?_,rfl⟩⟩
   simp only[mB,hb];rw[if_pos ⟨trivial,he⟩]
  ·cases h
 ·cases h
theorem Zy{o:Obj}{e n:Nat}{rows:List (List AV)}(h:o.lU=some (e,rows))(hl:o.len=some n):rows.length=n:=by
 cases o<;>simp only[Obj.lU,bL,pY,reduceCtorEq]at h
 ·obtain⟨rfl,rfl⟩:=h
  simpa[Obj.len,ay]using hl
 ·obtain⟨rfl,rfl⟩:=h
  simpa[Obj.len]using hl
theorem pk(w:World)(need old:Nat)(e:TypeId):need≤grownCap w need old e:=by simp[grownCap,Question.cut]
theorem Ba{es n cnt cap:Nat}{z:Array Value}{old new:List Value}(ho:old.length=n*es)(hn:new.length=cnt*es)(hz:z.size=es)(hc:n+cnt≤cap) :
  (old.toArray++new.toArray++Builtin.zeroCells z (cap-(n+cnt))).size=cap*es∧∀k,k<n*es+cnt*es→(old.toArray++new.toArray++Builtin.zeroCells z (cap-(n+cnt)))[k]?=(old++new)[k]? := by
 have e1:n*es+cnt*es=(n+cnt)*es:=(acd n cnt es).symm;have e2:(cap-(n+cnt))*es=cap*es-(n+cnt)*es:=Nat.sub_mul _ _ _;have e3:(n+cnt)*es≤cap*es:=Jn _ hc;refine⟨?_,fun k hk=>?_⟩
 ·simp[Builtin.zeroCells,ho,hn,hz]
  omega
 ·have:(old.toArray++new.toArray).size=n*es+cnt*es:=by simp[ho,hn]
  rw[Array.getElem?_append_left (by omega)]
  simp
section ops
variable {V:View} {τ:Tm} {nt:Nat} {a:Act} (hS:cE p cq V) (hT:og V τ nt a.tmps) {o:Oper} {av:AV} {σ':ae}
include hS hT
theorem afV{c:Call}{t t1 e:TypeId}{d:TypeDesc}{x y:Operand}{x' y':O}{s by':Nat}{z:List AV}(hop:o.op=.call c)(hcal:c.callee=.builtin .append)(hT0:c.argTypes[0]?=some t)(ht:p.underlying t=some (.slice e))(hT1:c.argTypes[1]?=some t1)(hd:p.underlying t1=some d)(hd':∀k,d≠.int k)
  (hx0:c.args[0]?=some x) (hy0:c.args[1]?=some y) (hs:cI p e=some s) (hb:CD p e=some by') (hz:zeroCells p e=some z) (hx:fD x=some x') (hy:fD y=some y') (hzs:z.length=s) (h0:0<s) (hb0:0<by') (hq:plain V.σ τ (.append s by' x' y')=some (av,σ')):Good p cq V ((execOp a.eval o).run p V.w) av σ':=by
 have hvx:=bm hT hx;have hvy:=bm hT hy;simp only[plain,fM]at hq;obtain⟨new,hsrc,hq⟩:=hq;obtain⟨news,n1,n2,n3,n4,n5⟩:=Src.facts hS hsrc hvy;obtain⟨i,zv,hi,hzv,hcr⟩:=zs hz V;have his:i.size=s:=by simpa[cI,hi]using hs
 have hib:i.bytes=by':=by simpa[CD,hi]using hb
 have hzsz:zv.cells.size=s:=by rw[←hcr.1];exact hzs
 subst his;subst hib;have hrun:∀{v:Value} {w w':World},(Builtin.append_ c.argTypes o.type (c.args.map a.eval)).run p w=.ok v w'→(execOp a.eval o).run p w=.ok (.value v) w':=fun h=>by simp[execOp,hop,resolve,hcal,invoke,builtin,h]
 have ha1:(c.args.map a.eval)[1]?=some (a.eval y):=by simp[hy0]
 have ha0:(c.args.map a.eval)[0]?=some (a.eval x):=by simp[hx0]
 have hnl:=new.H3;unfold zE at hq;split at hq
 ·rename_i hxe
  rw[hxe]at hvx
  have hvx':∃ba,a.eval x=.slice ba 0 0:=by
   generalize a.eval x=vx at hvx;cases hvx;exact⟨_,rfl⟩
  obtain⟨ba,hba⟩:=hvx';rw[hba]at ha0;split at hq
  ·rename_i hbig
   have hobj:∃ob:Obj,av=.sl V.σ.length new.count∧σ'=V.σ++[ob]∧ob.lU=some (i.size,new.rows):=by
    cases new<;>cases hq<;>exact⟨_,rfl,rfl,rfl⟩
   obtain⟨ob,rfl,rfl,hrows⟩:=hobj;obtain⟨s1,s2,s3⟩:=lU_rel hrows;by_cases hc0:new.count=0
   ·have hr0:new.rows=[]:=Jm.1 (by omega)
    have hn0:news=[]:=Jm.1 (by rw[n1,hc0];simp)
    have hrun':=uk (p:=p) (ty:=o.type) (w:=V.w) (base:=ba) hT0 ht hT1 hd hd' hi ha0 ha1 n2 (by omega) (n3 V.w rfl) (w':=V.w) (fun _ _=>by rw[hn0];rfl) (fun _=>rfl)
    obtain⟨k1,k2⟩:=hS.push ⟨none,0⟩ ob V.w rfl (qj _) (fun _ _=>rfl) (by simp) (fun ee=>(s3 p cq _ _).2 ⟨by simp[hr0],by simp[hr0],fun _=>rfl,fun _ _=>rfl,by simp⟩)
    refine⟨_,_,_,_,.inl (hrun hrun'),k1,?_,k2⟩;rw[hc0];refine .sl _ 0 ba 0 (.vec i.size 0) (by rw[EU,s1,hr0];rfl) (fun _ _ _=>UC _) (fun es l _ hl=>?_)
    rw[Bl hS,bL]at hl;subst hl;exact⟨fun h=>absurd rfl h,rfl⟩
   ·have hgr:=tK (p:=p) (ty:=o.type) (w:=V.w) (base:=ba) (sLen:=0) (sCap:=0) hT0 ht hT1 hd hd' hi hzv ha0 ha1 n2 (by omega) (by omega) (by simpa using hbig) (old:=([]:List Value).toArray) nL (n3 V.w.drew rfl)
    obtain⟨g1,g2⟩:=Ba (es:=i.size) (n:=0) (cnt:=new.count) (cap:=grownCap V.w (0+new.count) 0 e) (z:=zv.cells) (old:=[]) (new:=news) (by simp) n1 hzsz (pk _ _ _ _)
    obtain⟨k1,k2,k3⟩:=Br hS (es:=i.size) (n:=new.count) (cap:=grownCap V.w (0+new.count) 0 e) (rows:=new.rows) e h0 n4 hnl (by have:=pk V.w (0+new.count) 0 e;omega) g1 (fun k u hu=>by
     have hk:k<new.count*i.size:=by have:=(gu.1 hu).1;rw[bU n4,hnl]at this;exact this
     obtain⟨v,v1,v2,v3⟩:=n5 k u hu;exact⟨v,by rw[g2 k (by omega)];simpa using v1,v2,v3⟩) (w1:=V.w.drew) rfl rfl rfl s1 (fun V l=>(s3 p cq V l).2)
    refine⟨_,_,_,_,.inl (hrun hgr),k1,?_,k2⟩;simpa using k3
  ·cases hq
 ·rename_i b n hxe
  rw[hxe]at hvx;split at hq
  ·rename_i ob ho
   split at hq
   ·rename_i hcond
    simp only[gE,pY]at hq;obtain⟨ob',hj,rfl,rfl⟩:=hq;obtain⟨e0,rows,hrows,hfz,he,hrows',hself⟩:=M7 hj;have hn:=Zy hrows hcond.1;subst hn;obtain⟨self,hself,hselfr⟩:=hself V.σ b ho;obtain⟨olds,o1,o2,o3,o4,o5⟩:=Src.facts hS hself hvx;have hselfc:self.count=rows.length:=by rw[←self.H3,hselfr]
    rw[hselfr]at o4 o5;rw[hselfc]at o1 o3;obtain⟨s1,s2,s3⟩:=lU_rel hrows;obtain⟨t1,t2,t3⟩:=lU_rel hrows';obtain⟨l,hl⟩:=hS.nA ho;have hvec:=(s3 p cq V l).1 (hS.obj b l ob hl ho);have hbo:b<V.own.length:=(gu.1 hl).1;have hbσ:b<V.σ.length:=(gu.1 ho).1
    have hvx':∃ba,a.eval x=.slice ba rows.length l.cap∧(l.cap≠0→ba=l.addr):=by
     generalize a.eval x=vx at hvx;cases hvx with
     |sl _ _ ba c sh hs hnn hp=>
      have hs':sh=.vec e0 rows.length:=by
       rw[←s1];simpa[View.sh,ho]using hs.symm
      obtain⟨q1,rfl⟩:=hp e0 l hs' hl;exact⟨ba,rfl,q1⟩
    obtain⟨ba,hba,haddr⟩:=hvx';rw[hba]at ha0 o3
    have hwide:∀u∈rows++new.rows,u.length=i.size:=by
     intro u hu;rcases Gb.1 hu with h|h
     ·exact o4 u h
     ·exact n4 u h
    have vrel:∀(l':Loc) (w':World) (ba':Option Addr),(l'.cap≠0→ba'=l'.addr)→aV ⟨V.own.set b l',V.σ.set b ob',V.ok,w'⟩ (.sl b (rows.length+new.count)) (.slice ba' (rows.length+new.count) l'.cap):=by
     intro l' w' ba' hb';refine .sl _ _ _ _ (.vec i.size (rows.length+new.count)) (by simp[View.sh,hbσ,t1,hnl]) (fun es' m h=>by cases h;exact qj _) (fun es' l'' _ hl''=>?_)
     simp only[Xp hbo,bL]at hl'';subst hl'';exact⟨hb',rfl⟩
    have hle:∀{P:Prop},(new.count=0→P)→ob.sh.le ob'.sh P:=by
     intro P hP;rw[s1,t1];simp only[Sh.le,mh,hnl];by_cases hc:new.count=0
     ·left
      refine⟨by omega,?_,hP hc⟩
      rcases he with h|⟨_,h⟩
      ·exact .inr h
      ·exact .inl (by simp[h])
     ·right
      omega
    by_cases hroom:rows.length+new.count≤l.cap
    ·by_cases hcap0:l.cap=0
     ·have hr0:rows=[]:=Jm.1 (by omega)
      have hc0:new.count=0:=by omega
      have hnr0:new.rows=[]:=Jm.1 (by omega)
      have hn0:news=[]:=Jm.1 (by rw[n1,hc0];simp)
      have hrun':=uk (p:=p) (ty:=o.type) (w:=V.w) (base:=ba) hT0 ht hT1 hd hd' hi ha0 ha1 n2 hroom (n3 V.w rfl) (w':=V.w) (fun _ _=>by rw[hn0];rfl) (fun _=>rfl)
      have key:=hS.Mp (l':=l) (o':=ob') (w':=V.w) hl ho hfz (hle fun _=>rfl) rfl (qj _) (fun _ _ _=>rfl) (fun r _ hr=>.inl hr) (fun ee=>(t3 p cq _ l).2 ⟨hwide,by simp[hr0,hnr0],hvec.nil,fun _ _=>hcap0,fun r hr=>by
       obtain⟨cc,ct,c1,c2,c3⟩:=hvec.cells r hr;exact⟨cc,ct,c1,by rw[hcap0];simp,by simp[hr0,hnr0]⟩⟩)
      exact⟨_,_,_,_,.inl (hrun hrun'),key.1,vrel l V.w ba haddr,key.2⟩
     ·have hee:e0=i.size:=by
       rcases he with h|⟨h,h'⟩
       ·exact h
       ·exact absurd (hvec.hole h h') hcap0
      subst hee;cases hblk:l.iL with
      |none=>exact absurd (hvec.nil hblk) hcap0
      |some r=>
       obtain⟨cc,ct,c1,c2,c3⟩:=hvec.cells r hblk;have hba':ba=some ⟨r,0,none⟩:=by rw[haddr hcap0];simp[Loc.addr,hblk]
       have hbound:rows.length*i.size+news.length≤cc.size:=by
        rw[n1,←acd];exact UO (Jn _ hroom) c2
       have hone:∀v∈news,v.oneCell'=true:=by
        intro v hv;obtain⟨k,hk⟩:=Xr hv;have hkl:k<new.rows.flatten.length:=by rw[bU n4,hnl,←n1];exact(gu.1 hk).1
        obtain⟨v',v1,v2,_⟩:=n5 k _ (oh hkl);rw[hk,bL]at v1;subst v1;exact v2
       have hst:=run_storeCells_at p r (rows.length*i.size) ct news 0 cc V.w c1 (by simpa using hbound) hone
       simp only[ace]at hst
       have hput:b9 (rows.length*i.size) news cc.toList=some (List.take (rows.length*i.size) cc.toList++news++List.drop (rows.length*i.size+news.length) cc.toList):=by
        unfold b9;rw[if_pos (by simpa using hbound)]
       obtain⟨g1,g2⟩:=pt hput;generalize hcc':List.take (rows.length*i.size) cc.toList++news++List.drop (rows.length*i.size+news.length) cc.toList=cc' at hst g1 g2
       have hrun':=uk (p:=p) (ty:=o.type) (w:=V.w) (base:=ba) hT0 ht hT1 hd hd' hi ha0 ha1 n2 hroom (n3 V.w rfl) (w':=V.w.setRow r cc'.toArray) (fun ad had=>by
        rw[hba',bL]at had;subst had;rw[eG,sQ];exact hst) (fun h=>by rw[hba']at h;cases h)
       have hfl:(rows++new.rows).flatten=rows.flatten++new.rows.flatten:=by simp
       have hrl:=bU hvec.wide
       have key:=hS.Mp (l':=l) (o':=ob') (w':=V.w.setRow r cc'.toArray) hl ho hfz (hle fun _=>rfl) rfl (by simp) (fun r' _ hne=>setRow_other _ _ _ _ (fun hx=>hne (by rw[hx];exact hblk))) (fun r' _ hr=>.inl hr) (fun ee=>(t3 p cq _ l).2 ⟨hwide,by rw[mh,hnl];exact hroom,hvec.nil,fun h=>by omega,fun r' hr=>by
        rw[hblk,bL]at hr;subst hr;refine⟨cc'.toArray,ct,setRow_heap _ _ _ _ _ _ c1,by refine UO c2 (Nat.le_of_eq ?_);simpa using g1.symm,fun k u hu=>?_⟩
        rw[hfl]at hu;rw[ab9,g2 k];by_cases hk:k<rows.flatten.length
        ·rw[ym hk]at hu
         obtain⟨v,v1,v2,v3⟩:=c3 k u hu;exact⟨v,by rw[if_neg (by omega)];simpa using v1,v2,v3.mono ee⟩
        ·rw[CG (by omega)]at hu
         obtain⟨v,v1,v2,v3⟩:=n5 _ u hu;have hkl:=(gu.1 v1).1;exact⟨v,by rw[if_pos (by omega),←hrl];exact v1,v2,v3.mono ee⟩⟩)
       exact⟨_,_,_,_,.inl (hrun hrun'),key.1,vrel l _ ba haddr,key.2⟩
    ·have hgr:=tK (p:=p) (ty:=o.type) (w:=V.w) (base:=ba) hT0 ht hT1 hd hd' hi hzv ha0 ha1 n2 (by omega) (by omega) hcond.2 (o3 V.w.drew rfl) (n3 V.w.drew rfl)
     obtain⟨g1,g2⟩:=Ba (es:=i.size) (n:=rows.length) (cnt:=new.count) (cap:=grownCap V.w (rows.length+new.count) l.cap e) (z:=zv.cells) o1 n1 hzsz (pk _ _ _ _);have hfl:(rows++new.rows).flatten=rows.flatten++new.rows.flatten:=by simp
     have hrl:=bU o4;have hcap:=hvec.cap
     have key:=hS.Mp (l':=⟨some V.w.heap.size,grownCap V.w (rows.length+new.count) l.cap e⟩) (o':=ob') (w':=V.w.drew.alloc (.cells (olds.toArray++news.toArray++Builtin.zeroCells zv.cells (grownCap V.w (rows.length+new.count) l.cap e-(rows.length+new.count))) e)) hl ho hfz (hle fun h=>by omega) rfl
      (by simp) (fun r hr _=>heap_alloc_old V.w.drew _ r hr) (fun r _ hr=>by simp only[bL]at hr;subst hr;right;simp) (fun ee=>(t3 p cq _ _).2 (QV hwide (fun h=>by omega) (by rw[mh,hnl];exact pk _ _ _ _) g1 (heap_alloc_new V.w.drew _) (fun k u hu=>by
       rw[hfl]at hu;by_cases hk:k<rows.flatten.length
       ·rw[ym hk]at hu
        obtain⟨v,v1,v2,v3⟩:=o5 k u hu;exact⟨v,by rw[g2 k (by omega),ym (by rw[o1,←hrl];exact hk)];exact v1,v2,v3.mono ee⟩
       ·rw[CG (by omega)]at hu
        obtain⟨v,v1,v2,v3⟩:=n5 _ u hu;have hkl:=(gu.1 v1).1;exact⟨v,by rw[g2 k (by omega),CG (by rw[o1,←hrl];omega),o1,←hrl];exact v1,v2,v3.mono ee⟩)))
     exact⟨_,_,_,_,.inl (hrun hgr),key.1,vrel _ _ _ (fun _=>rfl),key.2⟩
   ·cases hq
  ·cases hq
 ·cases hq
end ops
theorem cE.WN{V:View}(h:cE p cq V){b:Nat}{l:Loc}{o:Obj}(hl:V.own[b]?=some l)(ho:V.σ[b]?=some o)(hlive:o.live=true)(hf:o.frozen=false)(l':Loc)(o':Obj)(hb:l'.iL=l.iL)
  (hor:Ext V ⟨V.own++[l'],V.σ.set b .gone++[o'],V.ok,V.w⟩→zC p cq ⟨V.own++[l'],V.σ.set b .gone++[o'],V.ok,V.w⟩ l' o') :
  cE p cq ⟨V.own++[l'],V.σ.set b .gone++[o'],V.ok,V.w⟩∧Step V ⟨V.own++[l'],V.σ.set b .gone++[o'],V.ok,V.w⟩:=by
 have hbl:b<V.σ.length:=(gu.1 ho).1
 have e:Ext V ⟨V.own++[l'],V.σ.set b .gone++[o'],V.ok,V.w⟩:=by
  refine⟨fun _ h=>h,fun _ _=>rfl,fun c s hs=>?_⟩
  have hc:c<V.σ.length:=by
   unfold View.sh at hs;rcases UB c V.σ.length with h1|h1
   ·exact h1
   ·simp[aa3 h1]at hs
  by_cases hcb:c=b
  ·subst hcb
   refine⟨.gone,?_,by cases s<;>exact trivial⟩
   simp only[View.sh];rw[ym (by simpa using hc),Xp hc]
   rfl
  ·refine⟨s,?_,s.le_refl ?_⟩
   ·simp only[View.sh]at hs ⊢
    rw[ym (by simpa using hc),O0 (fun e=>hcb e.symm)]
    exact hs
   ·simp only[ym (by rw[h.len];exact hc:c<V.own.length)]
 have hat:∀c r,(View.mk (V.own++[l']) (V.σ.set b .gone++[o']) V.ok V.w).at c r→(c≠b∧c<V.σ.length∧V.at c r)∨(c=V.σ.length∧V.at b r):=by
  rintro c r ⟨l1,o1,h1,h2,h3,h4⟩
  rcases UB c V.σ.length with hc|hc
  ·left
   have h2':(V.σ.set b .gone)[c]?=some o1:=by simpa[ym (show c<(V.σ.set b .gone).length by simpa using hc)]using h2
   have hcb:c≠b:=by
    rintro rfl
    rw[Xp hc]at h2';injection h2' with h2'
    subst h2';simp[Obj.live]at h3
   rw[O0 (fun e=>hcb e.symm)]at h2'
   exact⟨hcb,hc,l1,o1,by simpa[ym (by rw[h.len];exact hc:c<V.own.length)]using h1,h2',h3,h4⟩
  ·right
   have hlt:=(gu.1 h2).1;simp only[mh,abV,List.length_set]at hlt;have hce:c=V.σ.length:=by omega
   subst hce
   have:l1=l':=by
    have:=h1;rw[show V.σ.length=V.own.length from h.len.symm]at this;simpa using this.symm
   subst this;exact⟨rfl,l,o,hl,ho,hlive,by rw[←hb];exact h4⟩
 refine⟨⟨?_,?_,?_,?_,?_,?_⟩,e,qj _,?_,?_,?_,rfl⟩
 ·simp[h.len]
 ·intro c l1 o1 h1 h2
  rcases UB c V.σ.length with hc|hc
  ·have h1':V.own[c]?=some l1:=by simpa[ym (by rw[h.len];exact hc:c<V.own.length)]using h1
   have h2':(V.σ.set b .gone)[c]?=some o1:=by simpa[ym (show c<(V.σ.set b .gone).length by simpa using hc)]using h2
   by_cases hcb:c=b
   ·subst hcb
    rw[Xp hc]at h2';injection h2' with h2'
    subst h2';trivial
   ·rw[O0 (fun e=>hcb e.symm)]at h2'
    exact zC.mono e (fun _ _=>rfl) (h.obj c l1 o1 h1' h2')
  ·have hlt:=(gu.1 h2).1
   simp only[mh,abV,List.length_set]at hlt;have hce:c=V.σ.length:=by omega
   subst hce
   have hle:l1=l':=by
    have:=h1;rw[show V.σ.length=V.own.length from h.len.symm]at this;simpa using this.symm
   have hoe:o1=o':=by
    have h2':(V.σ.set b .gone++[o'])[V.σ.length]?=some o1:=h2;rw[CG (by simp)]at h2'
    simpa using h2'.symm
   subst hle;subst hoe;exact hor e
 ·intro c c' r hc hc'
  rcases hat c r hc with⟨h1,h1l,h1'⟩|⟨h1,h1'⟩<;>rcases hat c' r hc' with⟨h2,h2l,h2'⟩|⟨h2,h2'⟩
  ·exact h.one c c' r h1' h2'
  ·exact absurd (h.one c b r h1' h2') h1
  ·exact absurd (h.one c' b r h2' h1') h2
  ·rw[h1,h2]
 ·intro c r o1 hc ho1 hf1 hk
  rcases hat c r hc with⟨h1,h1l,h1'⟩|⟨h1,h1'⟩
  ·refine h.apart c r o1 h1' ?_ hf1 hk
   have h2':(V.σ.set b .gone)[c]?=some o1:=by simpa[ym (show c<(V.σ.set b .gone).length by simpa using h1l)]using ho1
   rwa [O0 (fun e=>h1 e.symm)]at h2'
  ·exact h.apart b r o h1' ho hf hk
 ·rintro r ⟨c,hc⟩
  rcases hat c r hc with⟨_,_,h1'⟩|⟨_,h1'⟩
  ·exact h.lt r ⟨c,h1'⟩
  ·exact h.lt r ⟨b,h1'⟩
 ·exact fun r hr=>h.xe r hr
 ·exact fun _ _ _=>rfl
 ·exact fun r hr=>.inl hr
 ·rintro r ⟨c,hc⟩
  rcases hat c r hc with⟨_,_,h1'⟩|⟨_,h1'⟩
  ·exact .inl ⟨c,h1'⟩
  ·exact .inl ⟨b,h1'⟩
section ops
variable {V:View} {τ:Tm} {nt:Nat} {a:Act} (hS:cE p cq V) (hT:og V τ nt a.tmps) {o:Oper} {av:AV} {σ':ae}
include hS hT
theorem aju{y:Operand}{y':O}(hop:o.op=.move y∨o.op=.assign y)(hx:fD y=some y')(hq:plain V.σ τ (.Zg y')=some (av,σ')):Good p cq V ((execOp a.eval o).run p V.w) av σ':=by
 simp only[plain,gE,pY]at hq;obtain⟨r,hr,rfl,rfl⟩:=hq;have hv:=bm hT hx;have hp:=Cw hS depth _ _ _ hr hv;have hrun:(execOp a.eval o).run p V.w=.ok (.value (a.eval y)) V.w:=by rcases hop with h|h<;>simp[execOp,h]
 unfold dR;split
 ·rename_i hf
  exact⟨_,V.w,V.own,V.ok,.inl hrun,hS,.p (hp.flat hf),Step.refl V⟩
 ·obtain⟨okf,f1,f2,f3⟩:=cE.freeze ([y'.val τ].flatMap (refs V.σ depth)) hS
  exact⟨_,V.w,V.own,okf,.inl hrun,f1,.p (hp.mono (fun b hb=>f3 b (by simpa using hb)) (fun _ _=>rfl)),f2⟩
theorem al4{t e:TypeId}{n es:Nat}{x:Operand}{x':O}{lo hi mx:Option Operand}{lo' hi' mx':Option O}(hop:o.op=.slice t x lo hi mx)(ht:p.underlying t=some (.array n e))(he:cI p e=some es)(h0:0<es)(hx:fD x=some x')(hlo:Bt lo=some lo')(hhi:Bt hi=some hi')(hmx:Bt mx=some mx')
  (hq:plain V.σ τ (.Z2 n es x' lo' hi' mx')=some (av,σ')):Good p cq V ((execOp a.eval o).run p V.w) av σ':=by
 have hv:=bm hT hx;simp only[plain]at hq;split at hq
 ·rename_i b hxv
  rw[hxv]at hv;split at hq
  ·rename_i h m e' row hbd hob
   split at hq
   ·rename_i hc
    obtain⟨hm,he',hrow⟩:=hc;subst hm;cases hq;obtain⟨l,hl⟩:=hS.nA hob;have hvec:oT V l e' (ay [row]):=hS.obj b l _ hl hob;generalize hvx:a.eval x=vx at hv;cases hv with
    |ptr _ _ _ _ ad s hs hnn hp=>
    have hs':s=.vec e' 1:=by
     have:V.sh b=some (Sh.vec e' 1):=by simp[View.sh,hob,Obj.sh]
     rw[this]at hs;exact(abA hs).symm
    obtain⟨r,hr,rfl⟩:=hp e' l hs' hl (by omega)
    obtain⟨h1,h2,h3,h4⟩:=xH hbd;have hrun:=xn (p:=p) (isSlice:=false) h1 h2 h3 h4 (mq hT hlo) (mq hT hhi) (mq hT hmx) V.w
    simp only at h4
    obtain⟨c,tt,hheap,hsize,hcells⟩:=hvec.cells r hr;have hcap:1≤l.cap:=by have:=hvec.cap;simpa[ay]using this
    have hlen:(row.take (h*es)).length=h*es:=by
     rw[abD,hrow];exact Nat.min_eq_left (Jn _ h4.2.1)
    obtain⟨c1,c2,c3⟩:=xJ es h (row.take (h*es)) hlen
    have hle:m*es≤c.size:=by
     have:e'≤l.cap*e':=Nat.le_mul_of_pos_left _ hcap;omega
    obtain⟨k1,k2⟩:=hS.WN hl hob rfl rfl ⟨l.iL,m⟩ (.pv es (chunk es h (row.take (h*es))) false) rfl (fun ex=>by
     refine⟨?_,?_,fun hb=>?_,fun hz=>by omega,fun r' hr'=>?_⟩
     ·intro y hy
      simp only[ay,CV]at hy;obtain⟨z,hz,rfl⟩:=hy;simpa using c3 z hz
     ·simp only[ay,bz,c2]
      exact h4.2.1
     ·rw[hr]at hb;cases hb
     ·have:r'=r:=by
       have hr2:l.iL=some r':=hr';rw[hr]at hr2;exact(abA hr2).symm
      subst this;refine⟨c,tt,hheap,hle,fun k u hu=>?_⟩
      rw[kj,c1]at hu
      have hk:(ay [row]).flatten[k]?=some u:=by
       rw[kj];simp only[abi,List.flatten_nil,abq];rw[xF,gE]at hu ⊢;obtain⟨q,hq1,hq2⟩:=hu;refine⟨q,?_,hq2⟩;have hkl:=(gu.1 hq1).1;rw[Uy]at hq1;split at hq1
       ·exact hq1
       ·cases hq1
      obtain⟨v,v1,v2,v3⟩:=hcells k u hk;exact⟨v,v1,v2,v3.mono ex⟩)
    refine⟨.slice (some ⟨r,0,none⟩) h m,V.w,_,_,.inl ?_,k1,?_,k2⟩
    ·simp only[execOp,hop,hvx,Instr.sliceAt,Sem.run_bind,bp ht,Result.andThen_ok,Instr.sureAddr,Sem.run_pure,hrun,lq he,eG,Nat.zero_mul,sQ,ace,Nat.sub_zero,ite_self]
    ·refine .sl _ h _ m (.vec es h) ?_ (fun es' m' hh=>by cases hh;exact qj _) (fun es' l2 _ hl2=>?_)
     ·simp only[View.sh]
      rw[CG (by simp)]
      simp[Obj.sh,c2]
     ·have:l2=⟨l.iL,m⟩:=by
       have h5:=hl2;rw[show V.σ.length=V.own.length from hS.len.symm]at h5;simpa using h5.symm
      subst this;exact⟨fun _=>by simp[Loc.addr,hr],rfl⟩
   ·cases hq
  ·cases hq
 ·cases hq
end ops
theorem ae1 {V:View} (hS:cE p cq V) {τ:Tm} {nt:Nat} {a:Act} (hT:og V τ nt a.tmps) {adv:Xm} {o:Oper} {x:lV} (hc:yp p adv o=some x) {av:AV} {σ':ae} (hq:plain V.σ τ x=some (av,σ')) :
    Good p cq V ((execOp a.eval o).run p V.w) av σ':=by
  have quietly:((quiet V.σ τ x).map fun v=>(v,V.σ))=some (av,σ')→Good p cq V ((execOp a.eval o).run p V.w) av σ':=by
    intro h
    simp only [gE,pY] at h
    obtain ⟨v,hv,rfl,rfl⟩:=h
    obtain ⟨u,h1,h2⟩:=afd hS hT hc hv
    exact Good.quiet hS h1 h2
  have hc0:=hc;unfold yp at hc;cases hop:o.op<;>simp only [hop,Jo,fM,gE,bL,reduceCtorEq] at hc
  case move y=>
    obtain ⟨z,h1,rfl⟩:=hc
    split at hq
    · exact aju hS hT (.inl hop) h1 hq
    · exact aoW hS hT (.inl hop) h1 hq
  case assign y=>
    obtain ⟨z,h1,rfl⟩:=hc
    split at hq
    · exact aju hS hT (.inr hop) h1 hq
    · exact aoW hS hT (.inr hop) h1 hq
  case alloc e=>
    obtain ⟨z,h1,s,_,hc⟩:=hc
    split at hc
    · rename_i h2;cases hc;exact aiy hS hop h1 h2 hq
    · cases hc
  case box e y=>
    obtain ⟨s,h1,g,h2,z,h3,hc⟩:=hc
    split at hc
    · rename_i h4;cases hc;exact aoV hS hT hop h4 h3 hq
    · cases hc
  case buildSlice t n ps=>
    obtain ⟨e,h1,s,h2,z,h3,ps',h4,hc⟩:=hc
    have h1':p.underlying t=some (.slice e):=by
      unfold G3 at h1;split at h1
      · rename_i h
        cases h1;exact h
      · cases h1
    split at hc
    · rename_i h5
      cases hc;split at hq
      · exact aiz hS hT hop h1' h2 h3 h4 h5.1 h5.2.1 h5.2.2 hq
      · exact afW hS hT hop h1' h2 h3 h4 h5.1 h5.2.1 h5.2.2 hq
    · cases hc
  case store t y z=>obtain ⟨s,h1,y',h2,z',h3,rfl⟩:=hc;exact aiB hS hT hop h1 h2 h3 hq
  case makeMap t n=>
    cases n with
    | none=>simp only [bL] at hc;subst hc;exact aiA hS hop hq
    | some n=>simp at hc
  case makeSlice t l c=>
    obtain ⟨e,h1,s,h2,z,h3,b,h4,l',h5,c',h6,hc⟩:=hc
    have h1':p.underlying t=some (.slice e):=by
      unfold G3 at h1;split at h1
      · rename_i h
        cases h1;exact h
      · cases h1
    split at hc
    · rename_i h7;cases hc;exact acy hS hT hop h1' h2 h3 h4 h5 h6 h7.1 h7.2.1 h7.2.2 hq
    · cases hc
  case mapUpdate t m k v=>
    split at hc
    · rename_i ht
      simp only [fM,bL] at hc
      obtain ⟨kl,h1,m',h2,k',h3,v',h4,rfl⟩:=hc
      exact al3 hS hT hop ht h1 h2 h3 h4 hq
    · cases hc
  case call c=>
    cases hcal:c.callee<;>simp only [hcal,reduceCtorEq] at hc
    case value f=>
      cases f<;>simp only [fM,bL] at hc
      case func f=>obtain ⟨as,_,rfl⟩:=hc;split at hq<;>simp [plain,quiet] at hq
      all_goals
        obtain ⟨y,_,as,_,rfl⟩:=hc
        simp [plain,quiet] at hq
    case builtin b=>
      cases b<;>simp only [reduceCtorEq,fM,bL] at hc
      case append=>
        split at hc
        · rename_i e y z d hT0 hx0 hy0 hT1
          split at hc
          · cases hc
          · rename_i hd'
            simp only [fM] at hc hT0 hT1
            obtain ⟨t0,ht0,he⟩:=hT0
            obtain ⟨t1,ht1,hd⟩:=hT1
            have he':p.underlying t0=some (.slice e):=by
              unfold G3 at he;split at he
              · rename_i h
                cases he;exact h
              · cases he
            obtain ⟨s,h1,b,h2,zz,h3,y',h4,z',h5,hc⟩:=hc
            split at hc
            · rename_i h6;cases hc;exact afV hS hT hop hcal ht0 he' ht1 hd (fun k hk=>hd' k hk) hx0 hy0 h1 h2 h3 h4 h5 h6.1 h6.2.1 h6.2.2 hq
            · cases hc
        · cases hc
      all_goals
        refine quietly ?_
        first
          | (obtain ⟨as,_,rfl⟩:=hc;exact hq)
          | (split at hc
             all_goals first
               | (cases hc;done)
               | (simp only [gE] at hc;obtain ⟨y',_,rfl⟩:=hc;exact hq)
               | (cases hc;exact hq)
               | (split at hc
                  all_goals first
                    | (cases hc;done)
                    | (cases hc;exact hq)))
  case pick c y z=>obtain ⟨_,_,_,_,_,_,rfl⟩:=hc;exact quietly hq
  case build t ps=>obtain ⟨_,_,_,_,rfl⟩:=hc;exact quietly hq
  case load t y=>obtain ⟨_,_,_,_,_,_,rfl⟩:=hc;exact quietly hq
  case nilCheck y=>obtain ⟨_,_,rfl⟩:=hc;exact quietly hq
  case binOp op t y z ty=>
    obtain ⟨y',_,z',_,hc⟩:=hc
    repeat' split at hc
    all_goals first
      | (cases hc;done)
      | (cases hc;exact quietly hq)
      | (simp only [fM] at hc
         obtain ⟨lv,_,hc⟩:=hc
         split at hc
         · cases hc;exact quietly hq
         · cases hc)
  case unOp op t y=>
    obtain ⟨y',_,hc⟩:=hc
    cases op<;>simp only [bL,reduceCtorEq] at hc
    all_goals (subst hc;exact quietly hq)
  case convert s d y=>
    obtain ⟨y',_,hc⟩:=hc
    split at hc
    · cases hc;exact quietly hq
    · cases hc;exact quietly hq
    · split at hc
      · cases hc;exact quietly hq
      · cases hc
    · cases hc
  case makeFunc f first caps=>
    cases f<;>simp only [reduceCtorEq] at hc
    split at hc
    · simp only [fM,bL] at hc
      obtain ⟨_,_,rfl⟩:=hc;exact quietly hq
    · cases hc
  case slice t y lo hi mx=>
    obtain ⟨y',h1,lo',h2,hi',h3,mx',h4,hc⟩:=hc
    split at hc
    · split at hc
      · cases hc
      · cases hc;exact quietly hq
    · simp only [fM,bL] at hc
      obtain ⟨_,_,rfl⟩:=hc
      exact quietly hq
    · rename_i ht
      simp only [fM] at hc
      obtain ⟨s,hs,hc⟩:=hc
      split at hc
      · rename_i h0;cases hc;exact al4 hS hT hop ht hs h0 h1 h2 h3 h4 hq
      · cases hc
    · cases hc
  case fieldAddr t y f=>
    obtain ⟨fd,h1,s,h2,hc⟩:=hc
    split at hc
    · cases hc
    · simp only [fM,bL] at hc
      obtain ⟨_,_,rfl⟩:=hc;exact quietly hq
  case field t y f=>obtain ⟨_,_,_,_,_,_,_,_,rfl⟩:=hc;exact quietly hq
  case indexAddr t y i=>
    split at hc
    · simp only [fM,bL] at hc
      obtain ⟨_,_,_,_,_,_,rfl⟩:=hc;exact quietly hq
    · simp only [fM,bL] at hc
      obtain ⟨_,_,_,_,_,_,rfl⟩:=hc;exact quietly hq
    · cases hc
  case index t y i=>
    split at hc
    · simp only [fM,bL] at hc
      obtain ⟨_,_,_,_,_,_,_,_,rfl⟩:=hc;exact quietly hq
    · simp only [fM,bL] at hc
      obtain ⟨_,_,_,_,rfl⟩:=hc;exact quietly hq
    · cases hc
  case lookup t y i ok=>
    split at hc
    · simp only [fM,bL] at hc
      obtain ⟨_,_,_,_,_,_,_,_,rfl⟩:=hc;exact quietly hq
    · cases hc
  case extract y k=>obtain ⟨_,_,rfl⟩:=hc;exact quietly hq
end Go.AE
