import Derived.Test.YtpccheodgonkkaaGreatA2
import Derived.RangeFuncRecord
import Derived.OrdersIn
set_option linter.unusedSimpArgs false
set_option linter.unusedVariables false
namespace Go.AE
structure oe (V:View) (xs:List AV) (vs:List Value):Prop where
 len:xs.length=vs.length
 rel:∀(i:Nat) (c:AV) (v:Value),xs[i]?=some c→vs[i]?=some v→aV V c v
def Enters(p:Program)(R:Value→World→Prop):Result Next→Prop
 |.ok (.value v) w=>R v w
 |.ok (.enter f args) w=>CallsIn Fence.wide 0 p f args w fun e w'=>∃u,e=.returned u∧R u w'
 |.ok (.round l f tmps gP body) w=>RoundIn Fence.wide 0 p l f tmps gP body w fun e w'=>∃u,e=.returned u∧R u w'
 |_=>False
theorem Enters.mono{p:Program}{R R':Value→World→Prop}{r:Result Next}(h:Enters p R r)(hr:∀v w,R v w→R' v w):Enters p R' r:=by
 unfold Enters at *;split at h
 ·exact hr _ _ h
 ·exact h.mono fun e w ⟨u,e1,e2⟩=>⟨u,e1,hr _ _ e2⟩
 ·exact h.mono fun e w ⟨u,e1,e2⟩=>⟨u,e1,hr _ _ e2⟩
 ·exact h.elim
def Left(p:Program)(cq:FuncId→Bool)(V:View)(v:AV)(σ':ae)(u:Value)(w':World):Prop :=
 ∃own' ok',cE p cq ⟨own',σ',ok',w'⟩∧aV ⟨own',σ',ok',w'⟩ v u∧Step V ⟨own',σ',ok',w'⟩
section
variable (p:Program) (cq:FuncId→Bool)
def Jh(f:FuncId)(args:List AV)(σ:ae)(v:AV)(σ':ae):Prop :=
 ∀(own:List Loc) (ok:Nat→Prop) (w:World) (vs:List Value),cE p cq ⟨own,σ,ok,w⟩→oe ⟨own,σ,ok,w⟩ args vs→CallsIn Fence.wide 0 p f vs.toArray w fun e w'=>∃u,e=.returned u∧Left p cq ⟨own,σ,ok,w⟩ v σ' u w'
def Cj(f:FuncId)(args:List AV)(σ:ae)(v:AV)(σ':ae):Prop :=
 ∀(own:List Loc) (ok:Nat→Prop) (w:World) (vs:List Value),cE p cq ⟨own,σ,ok,w⟩→oe ⟨own,σ,ok,w⟩ args vs→Enters p (Left p cq ⟨own,σ,ok,w⟩ v σ') ((callFunc f vs.toArray).run p w)
def Ck(g:AV)(args:List AV)(σ:ae)(v:AV)(σ':ae):Prop :=
 ∀(own:List Loc) (ok:Nat→Prop) (w:World) (gv:Value) (vs:List Value),cE p cq ⟨own,σ,ok,w⟩→aV ⟨own,σ,ok,w⟩ g gv→oe ⟨own,σ,ok,w⟩ args vs →
  ∃d,(Deferred.ofValue gv vs.toArray).run p w=.ok d w∧Enters p (Left p cq ⟨own,σ,ok,w⟩ v σ') ((invoke d.target d.args).run p w)
def Q5(w:World)(ok:Nat→Prop)(r:PV)(u:Value)(w':World):Prop :=
 ∃ok':Nat→Prop,dw w' ok' r u∧(∀b,ok b→ok' b)∧(∀b,ok' b→ok b∨w.heap.size≤b)∧(∀b,ok' b→b<w'.heap.size)∧w.heap.size≤w'.heap.size∧(∀b,b<w.heap.size→w'.heap[b]?=w.heap[b]?)∧env w'=env w
def acP(f:FuncId)(ps:List PV)(r:PV):Prop :=
 ∀(ok:Nat→Prop) (w:World) (vs:List Value),(∀b,ok b→b<w.heap.size)→ps.length=vs.length→(∀(i:Nat) (q:PV) (v:Value),ps[i]?=some q→vs[i]?=some v→dw w ok q v)→Enters p (Q5 w ok r) ((callFunc f vs.toArray).run p w)
def jR(f:FuncId)(args:List AV)(σ:ae)(v:AV)(σ':ae):Prop :=
 (∃ps r,omap (az σ depth) args=some ps∧acP p f ps r∧v=.p r∧σ'=dR σ args r)∨(cq f=false∧Cj p cq f args σ v σ')
def IX(l:Nat)(args:List AV)(σ:ae)(v:AV)(σ':ae):Prop :=
 (∃o,σ[l]?=some o∧o.sh=.loop)∧∀(own:List Loc) (ok:Nat→Prop) (w:World) (x:Loc) (r:Nat) (vs:List Value),cE p cq ⟨own,σ,ok,w⟩→own[l]?=some x→x.iL=some r→oe ⟨own,σ,ok,w⟩ args vs →
  Enters p (Left p cq ⟨own,σ,ok,w⟩ v σ') ((Instr.yield r vs.toArray).run p w)
def rI(V:View)(base:Nat)(ds:List Deferred):Prop :=
 ∃bs:List Nat,ds=bs.map (fun b=>{ target:=.collected b,args:=#[] })∧bs.Nodup∧∀b∈bs,base≤b∧b<V.w.heap.size∧V.w.heap[b]?=some (.deferred (some []))∧¬V.ok b∧¬V.owned b
def ve(V:View)(rd:Option Nat)(F:Fence):Prop :=
 match rd with
 |none=>F=Fence.wide
 |some l=>∃r,F=Fence.wide.inRound r∧((V.sh l=some .loop∧∃x,V.own[l]?=some x∧x.iL=some r)∨V.sh l=some .gone)
def Mm:Ex→Exit
 |.normal=>.normal
 |.exit id=>.exit id
 |.ret=>.ret
structure zB (V:View) (st:St) (base:Nat) (F:Fence) (a:Act):Prop where
 s:cE p cq V
 t:og V st.τ st.nt a.tmps
 d:rI V base a.defers
 f:ve V st.rd F
def Ji(c:K)(st:St)(e:Ex)(st':St):Prop :=
 ∀(code:Code),AU p cq c code→∀(own:List Loc) (ok:Nat→Prop) (w:World) (a:Act) (base:Nat) (F:Fence),zB p cq ⟨own,st.σ,ok,w⟩ st base F a→base≤w.heap.size →
  ∀Q:Exit→Act→World→Prop,(∀(own':List Loc) (ok':Nat→Prop) (w':World) (a':Act),zB p cq ⟨own',st'.σ,ok',w'⟩ st' base F a'→Step ⟨own,st.σ,ok,w⟩ ⟨own',st'.σ,ok',w'⟩→Q (Mm e) a' w')→code.wpIn F 0 p Q a w
end
theorem rI.mono{V V':View}(s:Step V V'){base:Nat}{ds:List Deferred}(h:rI V base ds):rI V' base ds:=by
 obtain⟨bs,h1,h2,h3⟩:=h;refine⟨bs,h1,h2,fun b hb=>?_⟩
 obtain⟨k1,k2,k3,k4,k5⟩:=h3 b hb;refine⟨k1,Q7 k2 s.size,by rw[s.keep b k2 k5];exact k3,fun hx=>?_,fun hx=>?_⟩
 ·rcases s.E5 b hx with h|h|h
  ·exact k4 h
  ·omega
  ·exact k5 h
 ·rcases s.xg b hx with h|h
  ·exact k5 h
  ·omega
theorem ve.mono{V V':View}(e:Ext V V'){rd:Option Nat}{F:Fence}(h:ve V rd F):ve V' rd F:=by
 unfold ve at *;cases rd with
 |none=>exact h
 |some l=>
  obtain⟨r,hF,h⟩:=h;refine⟨r,hF,?_⟩;rcases h with⟨h1,x,h2,h3⟩|h
  ·obtain⟨s',hs',hle⟩:=e.sh l _ h1
   cases s' with
   |loop=>exact .inl ⟨hs',x,by have:V'.own[l]?=V.own[l]? := hle;rw[this];exact h2,h3⟩
   |gone=>exact .inr hs'
   |vec=>simp[Sh.le]at hle
   |map=>simp[Sh.le]at hle
  ·obtain⟨s',hs',hle⟩:=e.sh l _ h
   cases s' with
   |gone=>exact .inr hs'
   |_=>simp[Sh.le]at hle
theorem oe.mono{V V':View}(e:Ext V V'){xs:List AV}{vs:List Value}(h:oe V xs vs):oe V' xs vs:=⟨h.len,fun i c v h1 h2=>(h.rel i c v h1 h2).mono e⟩
theorem ve.wide{V:View}{rd:Option Nat}{F:Fence}(h:ve V rd F):(∀f,F.fn f)∧F.depth=none∧(∀(n:Nat) (p:Program) (f:FuncId) (args:Array Value) (w:World) (R:Ending→World→Prop),CallsIn F n p f args w R↔CallsIn Fence.wide 0 p f args w R) ∧
  ∀(n:Nat) (p:Program) (l:Nat) (f:FuncId) (tmps:Array Value) (gP body:Code) (w:World) (R:Ending→World→Prop),RoundIn F n p l f tmps gP body w R↔RoundIn Fence.wide 0 p l f tmps gP body w R:=by
 have key:F=Fence.wide∨∃r,F=Fence.wide.inRound r:=by
  unfold ve at h;cases rd with
  |none=>exact .inl h
  |some l=>obtain⟨r,hF,_⟩:=h;exact .inr ⟨r,hF⟩
 have calls:∀(n:Nat) (p:Program) (f:FuncId) (args:Array Value) (w:World) (R:Ending→World→Prop),CallsIn Fence.wide n p f args w R↔CallsIn Fence.wide 0 p f args w R:=fun n p f args w R=>callsIn_wide.trans callsIn_wide.symm
 have rounds:∀(n:Nat) (p:Program) (l:Nat) (f:FuncId) (tmps:Array Value) (gP body:Code) (w:World) (R:Ending→World→Prop),RoundIn Fence.wide n p l f tmps gP body w R↔RoundIn Fence.wide 0 p l f tmps gP body w R:=fun n p l f tmps gP body w R=>
  ⟨fun h=>⟨h.1,fun c cs _=>h.2 c cs (room_wide _)⟩,fun h=>⟨h.1,fun c cs _=>h.2 c cs (room_wide _)⟩⟩
 rcases key with rfl|⟨r,rfl⟩
 ·exact⟨fun _=>trivial,rfl,calls,rounds⟩
 ·exact⟨fun _=>trivial,rfl,calls,rounds⟩
variable {p:Program} {cq:FuncId→Bool}
theorem S7{V:View}(hS:cE p cq V){args:List AV}{ps:List PV}{vs:List Value}(h:omap (az V.σ depth) args=some ps)(hr:oe V args vs) :
  ps.length=vs.length∧∀(i:Nat) (q:PV) (v:Value),ps[i]?=some q→vs[i]?=some v→dw V.w (fun r=>V.ok r∨V.blocks (args.flatMap (refs V.σ depth)) r) q v:=by
 obtain⟨h1,h2⟩:=iP h;refine⟨by rw[h1,hr.len],fun i q v hq hv=>?_⟩
 have hi:i<args.length:=by have:=(gu.1 hv).1;have:=hr.len;omega
 obtain⟨b,hb,hp⟩:=h2 i args[i] (oh hi);rw[hq,bL]at hb;subst hb;refine(Cw hS depth _ _ _ hp (hr.rel i _ v (oh hi) hv)).mono (fun r hr=>?_) (fun _ _=>rfl)
 rcases hr with h|h
 ·exact .inl h
 ·exact .inr (View.xG (fun b hb=>Mz.2 ⟨_,UJ hi,hb⟩) h)
theorem ZP{V:View}(hS:cE p cq V){args:List AV}{r:PV}{u:Value}{w':World}(h:Q5 V.w (fun b=>V.ok b∨V.blocks (args.flatMap (refs V.σ depth)) b) r u w'):Left p cq V (.p r) (dR V.σ args r) u w':=by
 obtain⟨ok',h1,h2,h3,h4,h5,h6,h7⟩:=h;unfold dR;split
 ·rename_i hf
  have hs:Step ⟨[],[],V.ok,V.w⟩ ⟨[],[],V.ok,w'⟩:=by
   refine⟨⟨fun _ h=>h,fun b hb=>h6 b (hS.xe b hb),fun b s hs=>?_⟩,h5,fun r hr _=>h6 r hr,fun r hr=>.inl hr,?_,h7⟩
   ·simp[View.sh]at hs
   ·rintro r ⟨b,l,o,hl,_⟩;simp at hl
  obtain⟨k1,k2⟩:=hS.UP hs (ok2:=V.ok) (fun _ h=>h) (fun _ h=>.inl h) (fun b hb=>Q7 (hS.xe b hb) h5)
  exact⟨_,_,k1,.p (h1.flat hf),k2⟩
 ·obtain⟨okf,f1,f2,f3⟩:=cE.freeze (args.flatMap (refs V.σ depth)) hS
  have hs:Step ⟨[],[],okf,V.w⟩ ⟨[],[],okf,w'⟩:=by
   refine⟨⟨fun _ h=>h,fun b hb=>h6 b (f1.xe b hb),fun b s hs=>?_⟩,h5,fun r hr _=>h6 r hr,fun r hr=>.inl hr,?_,h7⟩
   ·simp[View.sh]at hs
   ·rintro r ⟨b,l,o,hl,_⟩;simp at hl
  obtain⟨k1,k2⟩:=f1.UP hs (ok2:=fun b=>okf b∨(ok' b∧V.w.heap.size≤b)) (fun _ h=>.inl h) (fun b h=>h.imp id fun h=>h.2) (fun b hb=>by
   rcases hb with h|h
   ·exact Q7 (f1.xe b h) h5
   ·exact h4 b h.1)
  refine⟨_,_,k1,.p (h1.mono (fun b hb=>?_) (fun _ _=>rfl)),f2.trans k2⟩
  rcases h3 b hb with h|h
  ·exact .inl (f3 b h)
  ·exact .inr ⟨hb,h⟩
theorem G9{f:FuncId}{args:List AV}{σ σ':ae}{v:AV}(h:jR p cq f args σ v σ'):Cj p cq f args σ v σ':=by
 rcases h with⟨ps,r,h1,h2,rfl,rfl⟩|⟨_,h⟩
 ·intro own ok w vs hS hr
  obtain⟨k1,k2⟩:=S7 hS h1 hr
  exact(h2 _ w vs (fun b hb=>by
   rcases hb with h|⟨c,_,hc,_⟩
   ·exact hS.xe b h
   ·exact hS.lt b ⟨c,hc⟩) k1 k2).mono fun u w' hl=>ZP hS hl
 ·exact h
def lV.dV : lV→Bool
 |.dW .. |.ox .. |.CW ..=>true
 |_=>false
theorem R7 {adv:Xm} {o:Oper} {x:lV} (hc:yp p adv o=some x) (hx:x.dV = true):∃ c fv args',o.op=.call c∧c.callee=.value fv∧omap fD c.args.toList=some args'∧((∃ f,fv=.func f∧(x=.dW f args'∨x=.CW f args'))∨∃ g,fD fv=some g∧x=.ox g args'):=by
  unfold yp at hc;cases hop:o.op<;>simp only [hop,Jo,fM,gE,bL,reduceCtorEq] at hc
  case call c=>
    cases hcal:c.callee<;>simp only [hcal,reduceCtorEq] at hc
    case value f=>
      cases f<;>simp only [fM,bL] at hc
      case func f=>
        obtain ⟨as,h1,rfl⟩:=hc
        refine ⟨c,_,as,rfl,hcal,h1,.inl ⟨f,rfl,?_⟩⟩;split
        · exact .inr rfl
        · exact .inl rfl
      all_goals
        obtain ⟨y,h2,as,h1,rfl⟩:=hc
        exact ⟨c,_,as,rfl,hcal,h1,.inr ⟨y,h2,rfl⟩⟩
    case builtin b=>
      exfalso;cases b<;>simp only [reduceCtorEq,fM,bL] at hc
      case append=>
        split at hc
        · split at hc
          · cases hc
          · simp only [fM] at hc
            obtain ⟨s,h1,b,h2,zz,h3,y',h4,z',h5,hc⟩:=hc
            split at hc
            · cases hc;simp [lV.dV] at hx
            · cases hc
        · cases hc
      all_goals
        first
          | (obtain ⟨as,_,rfl⟩:=hc;simp [lV.dV] at hx;done)
          | (split at hc
             all_goals first
               | (cases hc;done)
               | (simp only [gE] at hc;obtain ⟨y',_,rfl⟩:=hc;simp [lV.dV] at hx;done)
               | (cases hc;simp [lV.dV] at hx;done)
               | (split at hc
                  all_goals first
                    | (cases hc;done)
                    | (cases hc;simp [lV.dV] at hx;done)))
  all_goals exfalso
  case move y=>obtain ⟨z,h1,rfl⟩:=hc;split at hx<;>simp [lV.dV] at hx
  case assign y=>obtain ⟨z,h1,rfl⟩:=hc;split at hx<;>simp [lV.dV] at hx
  case alloc e=>
    obtain ⟨z,h1,s,_,hc⟩:=hc
    split at hc
    · cases hc;simp [lV.dV] at hx
    · cases hc
  case box e y=>
    obtain ⟨s,h1,g,h2,z,h3,hc⟩:=hc
    split at hc
    · cases hc;simp [lV.dV] at hx
    · cases hc
  case buildSlice t n ps=>
    obtain ⟨e,h1,s,h2,z,h3,ps',h4,hc⟩:=hc
    split at hc
    · cases hc;split at hx<;>simp [lV.dV] at hx
    · cases hc
  case store t y z=>obtain ⟨s,h1,y',h2,z',h3,rfl⟩:=hc;simp [lV.dV] at hx
  case makeMap t n=>
    cases n with
    | none=>simp only [bL] at hc;subst hc;simp [lV.dV] at hx
    | some n=>simp at hc
  case makeSlice t l c=>
    obtain ⟨e,h1,s,h2,z,h3,b,h4,l',h5,c',h6,hc⟩:=hc
    split at hc
    · cases hc;simp [lV.dV] at hx
    · cases hc
  case mapUpdate t m k v=>
    split at hc
    · simp only [fM,bL] at hc
      obtain ⟨kl,h1,m',h2,k',h3,v',h4,rfl⟩:=hc
      simp [lV.dV] at hx
    · cases hc
  case pick c y z=>obtain ⟨_,_,_,_,_,_,rfl⟩:=hc;simp [lV.dV] at hx
  case build t ps=>obtain ⟨_,_,_,_,rfl⟩:=hc;simp [lV.dV] at hx
  case load t y=>obtain ⟨_,_,_,_,_,_,rfl⟩:=hc;simp [lV.dV] at hx
  case nilCheck y=>obtain ⟨_,_,rfl⟩:=hc;simp [lV.dV] at hx
  case binOp op t y z ty=>
    obtain ⟨y',_,z',_,hc⟩:=hc
    repeat' split at hc
    all_goals first
      | (cases hc;done)
      | (cases hc;simp [lV.dV] at hx;done)
      | (simp only [fM] at hc
         obtain ⟨lv,_,hc⟩:=hc
         split at hc
         · cases hc;simp [lV.dV] at hx
         · cases hc)
  case unOp op t y=>
    obtain ⟨y',_,hc⟩:=hc
    cases op<;>simp only [bL,reduceCtorEq] at hc
    all_goals (subst hc;simp [lV.dV] at hx)
  case convert s d y=>
    obtain ⟨y',_,hc⟩:=hc
    split at hc
    · cases hc;simp [lV.dV] at hx
    · cases hc;simp [lV.dV] at hx
    · split at hc
      · cases hc;simp [lV.dV] at hx
      · cases hc
    · cases hc
  case makeFunc f first caps=>
    cases f<;>simp only [reduceCtorEq] at hc
    split at hc
    · simp only [fM,bL] at hc
      obtain ⟨_,_,rfl⟩:=hc;simp [lV.dV] at hx
    · cases hc
  case slice t y lo hi mx=>
    obtain ⟨y',h1,lo',h2,hi',h3,mx',h4,hc⟩:=hc
    split at hc
    · split at hc
      · cases hc
      · cases hc;simp [lV.dV] at hx
    · simp only [fM,bL] at hc
      obtain ⟨_,_,rfl⟩:=hc
      simp [lV.dV] at hx
    · simp only [fM] at hc
      obtain ⟨s,hs,hc⟩:=hc
      split at hc
      · cases hc;simp [lV.dV] at hx
      · cases hc
    · cases hc
  case fieldAddr t y f=>
    obtain ⟨fd,h1,s,h2,hc⟩:=hc
    split at hc
    · cases hc
    · simp only [fM,bL] at hc
      obtain ⟨_,_,rfl⟩:=hc;simp [lV.dV] at hx
  case field t y f=>obtain ⟨_,_,_,_,_,_,_,_,rfl⟩:=hc;simp [lV.dV] at hx
  case indexAddr t y i=>
    split at hc
    · simp only [fM,bL] at hc
      obtain ⟨_,_,_,_,_,_,rfl⟩:=hc;simp [lV.dV] at hx
    · simp only [fM,bL] at hc
      obtain ⟨_,_,_,_,_,_,rfl⟩:=hc;simp [lV.dV] at hx
    · cases hc
  case index t y i=>
    split at hc
    · simp only [fM,bL] at hc
      obtain ⟨_,_,_,_,_,_,_,_,rfl⟩:=hc;simp [lV.dV] at hx
    · simp only [fM,bL] at hc
      obtain ⟨_,_,_,_,rfl⟩:=hc;simp [lV.dV] at hx
    · cases hc
  case lookup t y i ok=>
    split at hc
    · simp only [fM,bL] at hc
      obtain ⟨_,_,_,_,_,_,_,_,rfl⟩:=hc;simp [lV.dV] at hx
    · cases hc
  case extract y k=>obtain ⟨_,_,rfl⟩:=hc;simp [lV.dV] at hx
section
variable (p:Program) (cq:FuncId→Bool)
def DD(st:St)(op:lV)(v:AV)(σ':ae):Prop :=
 match op with
 |.dW f args=>jR p cq f (args.map (·.val st.τ)) st.σ v σ'
 |.ox x args=>Ck p cq (x.val st.τ) (args.map (·.val st.τ)) st.σ v σ'
 |.CW f args=>Cj p cq f (args.map (·.val st.τ)) st.σ v σ'
 |op=>plain st.σ st.τ op=some (v,σ')
def iA(i:fG)(st st':St):Prop :=
 ∃w,gS st.τ i.guard=some w∧((w=true∧∃v σ',DD p cq st i.op v σ'∧St.put { st with σ:=σ' } i.dst v=some st')∨(w=false∧st.put i.dst (.p (.jO []))=some st'))
inductive vi:List fG→St→St→Prop
 |nil (st:St):vi [] st st
 |cons (i:fG) (r:List fG) (st st1 st':St) (h:iA p cq i st st1) (hr:vi r st1 st'):vi (i::r) st st'
end
theorem acz{V:View}{st:St}{a:Act}(hT:og V st.τ st.nt a.tmps){ops:Array Oper}{o:Oper}{i:fG}(hi:i.guard=o.guard.map fun(j,w)=>(((ops[j]?).bind (·.dst)).getD 1000000,w)){w:Bool}(h:gS st.τ i.guard=some w):Region.wanted o (yielded ops a.tmps)=w:=by
 unfold Region.wanted;rw[hi]at h;cases hg:o.guard with
 |none=>simp[hg,gS]at h;simpa using h
 |some jw=>
  obtain⟨j,want⟩:=jw;simp only[hg,vd,gS]at h;simp only[yielded];cases hd:(ops[j]?).bind (·.dst)with
  |none=>
   rw[hd]at h;simp only[Option.getD_none]at h;have hrel:=hT.get 1000000
   have hund:a.tmps.getD 1000000 undef=undef:=by
    have:¬1000000<a.tmps.size:=by have:=hT.size;have:=hT.small;omega
    simp[Array.getD,this]
   rw[hund]at hrel;simp only[Option.bind_none];split at h
   ·rename_i b hb
    rw[hb]at hrel;have:=hrel.JA;simp[undef]at this
   ·simp only[bL]at h
    subst h;rfl
   ·cases h
  |some t=>
   rw[hd]at h;simp only[Q2]at h;have hrel:=hT.get t;simp only[xu];split at h
   ·rename_i b hb
    rw[hb]at hrel;have hv:=hrel.JA
    have ht:a.tmps[t]?=some (.bool b):=by
     by_cases hlt:t<a.tmps.size
     ·simp[Array.getD,hlt]at hv
      simp[hlt,hv]
     ·simp[Array.getD,hlt,undef]at hv
    simp only[bL]at h;subst h;rw[ht];cases b<;>cases want<;>rfl
   ·rename_i hb
    rw[hb]at hrel;simp only[bL]at h;subst h
    have hnb:∀b,a.tmps[t]? ≠ some (.bool b):=by
     intro b hx;have:a.tmps.getD t undef=.bool b:=by simp[UK,hx]
     rw[this]at hrel;cases hrel with|p h=>cases h
    split
    ·rename_i b hx
     exact absurd hx (hnb b)
    ·rfl
   ·cases h
theorem zB.put{V:View}{st st':St}{base:Nat}{F:Fence}{a:Act}(h:zB p cq V st base F a){d:Option Nat}{v:AV}{u:Value}(hp:st.put d v=some st')(hv:aV V v u):zB p cq V st' base F (a.put d u)∧st'.σ=st.σ:=by
 cases d with
 |none=>
  simp only[St.put,bL]at hp;subst hp;exact⟨h,rfl⟩
 |some d=>
  simp only[St.put]at hp;split at hp
  ·rename_i hd
   cases hp;exact⟨⟨h.s,h.t.put hd hv,h.d,h.f⟩,rfl⟩
  ·cases hp
theorem zB.step{V V':View}{st:St}{base:Nat}{F:Fence}{a:Act}(h:zB p cq V st base F a)(s:Step V V')(hS:cE p cq V'):zB p cq V' st base F a :=
 ⟨hS,h.t.mono s.ext,h.d.mono s,h.f.mono s.ext⟩
theorem zB.store{V:View}{st:St}{σ':ae}{base:Nat}{F:Fence}{a:Act}(h:zB p cq V st base F a):zB p cq V { st with σ:=σ' } base F a:=⟨h.s,h.t,h.d,h.f⟩
theorem Sl{V:View}{rd:Option Nat}{F:Fence}(hF:ve V rd F){R:Value→World→Prop}{r:Result Next}{o:Oper}{a:Act}{K:Act→World→Prop}{Q:Exit→Act→World→Prop}(h:Enters p R r)(hK:∀u w',R u w'→K (a.put o.dst u) w'):o.uponIn F 0 p a K Q r:=by
 obtain⟨f1,f2,f3,f4⟩:=hF.wide;unfold Enters at h;split at h
 ·exact hK _ _ h
 ·refine⟨fun hd=>by rw[f2]at hd;simp at hd,(f3 _ _ _ _ _ _).2 (h.mono fun e w ⟨u,e1,e2⟩=>?_)⟩
  subst e1;exact hK _ _ e2
 ·refine⟨fun hd=>by rw[f2]at hd;simp at hd,(f4 _ _ _ _ _ _ _ _ _).2 (h.mono fun e w ⟨u,e1,e2⟩=>?_)⟩
  subst e1;exact hK _ _ e2
 ·exact h.elim
theorem Re{V:View}{τ:Tm}{nt:Nat}{a:Act}(hT:og V τ nt a.tmps){os:Array Operand}{xs:List O}(h:omap fD os.toList=some xs):oe V (xs.map (·.val τ)) (os.map a.eval).toList:=by
 obtain⟨h1,h2⟩:=iP h;refine⟨by simp[h1],fun i c v hc hv=>?_⟩
 rw[abJ,xF,gE]at hv;obtain⟨x,hx,rfl⟩:=hv;obtain⟨b,hb,hab⟩:=h2 i x hx;rw[xF,hb]at hc;simp only[vd,bL]at hc;subst hc;exact bm hT hab
theorem Jd{ops:Array Oper}{k:Nat}{o:Oper}{i:fG}(ho:ops[k]?=some o)(hi:IOk p ops o i){st st':St}(h:iA p cq i st st'){own:List Loc}{ok:Nat→Prop}{w:World}{a:Act}{base:Nat}{F:Fence}(hN:zB p cq ⟨own,st.σ,ok,w⟩ st base F a)
  {K:Act→World→Prop} {Q:Exit→Act→World→Prop} (hK:∀(own':List Loc) (ok':Nat→Prop) (w':World) (a':Act),zB p cq ⟨own',st'.σ,ok',w'⟩ st' base F a'→Step ⟨own,st.σ,ok,w⟩ ⟨own',st'.σ,ok',w'⟩→K a' w'):wpOpIn F 0 p ops Q k K a w:=by
 obtain⟨f1,f2,f3,f4⟩:=hN.f.wide;obtain⟨wt,hw,h⟩:=h;have hwant:=acz hN.t hi.guard hw;unfold wpOpIn;simp only[ho,hwant];rw[←hi.dst]
 have after:∀{σ':ae} {v:AV} {u:Value} {w':World},St.put { st with σ:=σ' } i.dst v=some st'→Left p cq ⟨own,st.σ,ok,w⟩ v σ' u w'→K (a.put i.dst u) w':=by
  intro σ' v u w' hput ⟨own',ok',k1,k2,k3⟩;obtain⟨n1,n2⟩:=(hN.step k3 k1).store.put hput k2
  simp only at n2
  exact hK own' ok' w' _ (by rw[n2];exact n1) (by rw[n2];exact k3)
 rcases h with⟨rfl,v,σ',hop,hput⟩|⟨rfl,hput⟩
 ·simp only[if_true]
  refine⟨fun f _=>f1 f,?_⟩
  rcases hi.op with⟨s,hs⟩|⟨adv,hc⟩
  ·rw[hs]at hop
   simp[DD,plain,quiet]at hop
  ·by_cases hcall:i.op.dV=true
   ·obtain⟨c,fv,args',h1,h2,h3,h4⟩:=R7 hc hcall
    rw[Oper.semAt_eq _ _ _ (by rw[h1];simp)]
    have hargs:=Re hN.t h3;have hres:∀(d:Deferred),(Deferred.ofValue (a.eval fv) (c.args.map a.eval)).run p w=.ok d w→(execOp a.eval o).run p w=(invoke d.target d.args).run p w:=fun d hd=>by simp[execOp,h1,resolve,h2,hd]
    refine Sl hN.f (R:=Left p cq ⟨own,st.σ,ok,w⟩ v σ') ?_ (fun u w' hl=>by rw[←hi.dst];exact after hput hl)
    rcases h4 with⟨f,rfl,hx⟩|⟨g,hg,hx⟩
    ·have hop2:Cj p cq f (args'.map (·.val st.τ)) st.σ v σ':=by
      rcases hx with hx|hx
      ·rw[hx]at hop;exact G9 hop
      ·rw[hx]at hop;exact hop
     have:=hop2 own ok w _ hN.s hargs;rw[Array.toArray_toList]at this;rw[hres { target:=.fn (.func f) #[],args:=c.args.map a.eval } (by simp[Act.eval,Deferred.ofValue])]
     simpa[invoke]using this
    ·rw[hx]at hop
     obtain⟨d,hd,he⟩:=hop own ok w _ _ hN.s (bm hN.t hg) hargs;rw[Array.toArray_toList]at hd;rw[hres d hd];exact he
   ·have hop':plain st.σ st.τ i.op=some (v,σ'):=by
     unfold DD at hop;split at hop
     ·rename_i he;rw[he]at hcall;simp[lV.dV]at hcall
     ·rename_i he;rw[he]at hcall;simp[lV.dV]at hcall
     ·rename_i he;rw[he]at hcall;simp[lV.dV]at hcall
     ·exact hop
    have hnd:∀c,o.op≠.defer c:=by
     intro c hx;unfold yp at hc;rw[hx]at hc;cases hc
    rw[Oper.semAt_eq _ _ _ hnd];obtain⟨u,w',own',ok',hr,g1,g2,g3⟩:=ae1 hN.s hN.t hc hop';rcases hr with hr|⟨hr,rfl⟩
    ·rw[hr]
     show K (a.put o.dst u) w';rw[←hi.dst];exact after hput ⟨own',ok',g1,g2,g3⟩
    ·rw[hr]
     show K (a.put o.dst undef) w';rw[←hi.dst];exact after hput ⟨own',ok',g1,g2,g3⟩
 ·simp only[nh,if_false]
  refine⟨fun f _=>f1 f,?_⟩
  obtain⟨n1,n2⟩:=hN.put hput (.p (.jO [] [] rfl (by simp)))
  exact hK own ok w _ (by rw[n2];exact n1) (by rw[n2];exact Step.refl _)
theorem Gq{α:Type}{l r:List α}{i:Nat}{x:α}(h:l.drop i=x::r):l[i]?=some x∧l.drop (i+1)=r:=by
 have h1:(l.drop i)[0]?=some x:=by rw[h];rfl
 refine⟨by simpa using h1,?_⟩
 have:(l.drop i).drop 1=r:=by rw[h];rfl
 rw[List.drop_drop]at this;exact this
theorem akM{ops:Array Oper}{l:List Oper}{is:List fG}(hO:CS p ops l is):∀(i0:Nat),ops.toList.drop i0=l→∀{st st':St},vi p cq is st st'→∀{own:List Loc} {ok:Nat→Prop} {w:World} {a:Act} {base:Nat} {F:Fence},zB p cq ⟨own,st.σ,ok,w⟩ st base F a →
  ∀{Q:Exit→Act→World→Prop},(∀(own':List Loc) (ok':Nat→Prop) (w':World) (a':Act),zB p cq ⟨own',st'.σ,ok',w'⟩ st' base F a'→Step ⟨own,st.σ,ok,w⟩ ⟨own',st'.σ,ok',w'⟩→Q .normal a' w')→wpOpsIn F 0 p ops Q (List.range' i0 l.length) a w:=by
 induction hO with
 |nil=>
  intro i0 _ st st' hR own ok w a base F hN Q hQ;cases hR;exact hQ _ _ _ _ hN (Step.refl _)
 |one o r i is hi hr ih=>
  intro i0 hl st st' hR own ok w a base F hN Q hQ;cases hR with
  |cons _ _ _ st1 _ hf hR=>
  obtain⟨ho,hl'⟩:=Gq hl;rw[oi,ab5,wpOpsIn_cons];refine Jd (by simpa using ho) hi hf hN (fun own1 ok1 w1 a1 hN1 s1=>?_)
  exact ih (i0+1) hl' hR hN1 (fun own2 ok2 w2 a2 hN2 s2=>hQ own2 ok2 w2 a2 hN2 (s1.trans s2))
 |two o o' r is d e s g v x ro h1 h2 h3 h4 h5 h6 h7 h8 h9 z h10 h11 h12 hr ih=>
  intro i0 hl st st' hR own ok w a base F hN Q hQ;cases hR with
  |cons _ _ _ st1 _ hf hR=>
  obtain⟨ho,hl'⟩:=Gq hl;obtain⟨ho',hl''⟩:=Gq hl';obtain⟨f1,f2,f3,f4⟩:=hN.f.wide;obtain⟨wt,hw,hf⟩:=hf;simp only[gS,bL]at hw;subst hw;rcases hf with⟨_,av,σ',hop,hput⟩|⟨h,_⟩
  ·have hd:d<st.nt:=by
    simp only[St.put]at hput;split at hput
    ·assumption
    ·cases hput
   obtain⟨u,w1,w',own',ok',e1,e2,e3,e4,e5⟩:=al2 hN.s hN.t h1 h4 hd h7 h11 h10 h9 h12 hop;obtain⟨n1,n2⟩:=(hN.step e5 e3).store.put hput e4
   simp only at n2
   rw[oi,oi,ab5,ab5,wpOpsIn_cons];have hwant:Region.wanted o (yielded ops a.tmps)=true:=by simp[Region.wanted,h3]
   have hwant':∀a':Act,Region.wanted o' (yielded ops a'.tmps)=true:=fun a'=>by simp[Region.wanted,h6]
   unfold wpOpIn;have hoo:ops[i0]?=some o:=by simpa using ho
   have hoo':ops[i0+1]?=some o':=by simpa using ho'
   simp only[hoo,hwant,if_true];refine⟨fun f _=>f1 f,?_⟩
   rw[Oper.semAt_eq _ _ _ (by rw[h1];simp),e1]
   show wpOpsIn F 0 p ops Q ((i0+1)::List.range' (i0+1+1) r.length) (a.put o.dst u) w1;rw[wpOpsIn_cons,h2];unfold wpOpIn;simp only[hoo',hwant',if_true];refine⟨fun f _=>f1 f,?_⟩
   rw[Oper.semAt_eq _ _ _ (by rw[h4];simp),e2]
   show wpOpsIn F 0 p ops Q (List.range' (i0+1+1) r.length) ((a.put (some d) u).put o'.dst undef) w';rw[h5];refine ih (i0+1+1) hl'' hR (by rw[n2];exact n1) (fun own2 ok2 w2 a2 hN2 s2=>hQ own2 ok2 w2 a2 hN2 (Step.trans ?_ s2))
   rw[n2];exact e5
  ·cases h
theorem ZV{id:Nat}{ops:Array Oper}{is:List fG}(hO:CS p ops ops.toList is){st st':St}(hR:vi p cq is st st'){own:List Loc}{ok:Nat→Prop}{w:World}{a:Act}{base:Nat}{F:Fence}(hN:zB p cq ⟨own,st.σ,ok,w⟩ st base F a)
  {Q:Exit→Act→World→Prop} (hQ:∀(own':List Loc) (ok':Nat→Prop) (w':World) (a':Act),zB p cq ⟨own',st'.σ,ok',w'⟩ st' base F a'→Step ⟨own,st.σ,ok,w⟩ ⟨own',st'.σ,ok',w'⟩→Q .normal a' w'):(Code.region id ops false).wpIn F 0 p Q a w:=by
 apply wpIn_region;have:=akM hO 0 (by simp) hR hN hQ
 rw[List.range_eq_range'];simpa using this
def QB(p:Program)(r:ResultVar):Option RV :=
 match r with
 |.tmp t=>some (RV.tmp t)
 |.cell a t=>do some (RV.cell a (←cI p t) (←mV p t))
structure OV (p:Program) (cq:FuncId→Bool) (f:FuncId) (fn:cZ):Prop where
 ok:∃gf code,p.funcs[f]?=some gf∧gf.body=some code∧(gf.name == "runtime.NumGoroutine")=false∧fn.ntmps=gf.ntmps∧fn.ntmps≤1000000∧omap (QB p) gf.results.toList=some fn.results∧AU p cq fn.body code
theorem ai{p:Program}{cq:FuncId→Bool}{adv:Xm}{imp:Bool}{f:FuncId}{fn:cZ}(hnum:∀g∈p.funcs,(g.name == "runtime.NumGoroutine")=false)(h:al p cq adv imp f=some fn):OV p cq f fn∧fn.imp=imp:=by
 unfold al at h;simp only[Jo,fM]at h;obtain⟨gf,h1,c,h2,rs,h3,h⟩:=h;split at h
 ·rename_i h4
  cases h;exact⟨⟨gf,c,h1,h2,hnum gf (Array.mem_of_getElem? h1),rfl,h4,h3,P5 p cq _ (n9 p cq adv c) _ _⟩,rfl⟩
 ·cases h
section
theorem alh{V:View}(hS:cE p cq V){τ:Tm}{nt:Nat}{a:Array Value}(hT:og V τ nt a){x:ResultVar}{r:RV}(hx:QB p x=some r){v:AV}(h:D0 V.σ τ r=some v) :
  ∃u,(match x with|.tmp t=>pure (a.getD t undef)|.cell b t=>do loadVar t (←asAddr (a.getD b undef)):Sem Value).run p V.w=.ok u V.w∧aV V v u:=by
 cases x with
 |tmp t=>
  simp only[QB,bL]at hx;subst hx;simp only[D0,bL]at h;subst h;exact⟨_,rfl,hT.get t⟩
 |cell b t=>
  simp only[QB,Jo,fM,bL]at hx;obtain⟨s,h1,g,h2,rfl⟩:=hx;simp only[D0]at h;obtain⟨u,hu,hv⟩:=S2 hS h1 h2 h (hT.get b);refine⟨u,?_,hv⟩
  have hp:∃ad,a.getD b undef=.pointer (some ad):=by
   have:=hT.get b;unfold gM at h;split at h
   ·rename_i he;rw[he]at this;obtain⟨r,off,e,_⟩:=Qh this;exact⟨_,e⟩
   ·rename_i he;rw[he]at this;exact Ju this
   ·cases h
  obtain⟨ad,had⟩:=hp;rw[had]at hu;simp only[Instr.loadAt,Instr.sureAddr]at hu;simpa[asAddr,had]using hu
theorem Yd{V:View}(hS:cE p cq V){τ:Tm}{nt:Nat}{a:Array Value}(hT:og V τ nt a):∀{xs:List ResultVar} {rs:List RV} {vs:List AV},omap (QB p) xs=some rs→omap (D0 V.σ τ) rs=some vs →
  ∃us:List Value,(xs.mapM fun|.tmp t=>pure (a.getD t undef)|.cell b t=>do loadVar t (←asAddr (a.getD b undef)):Sem (List Value)).run p V.w=.ok us V.w∧oe V vs us
 | [],rs,vs,h,h'=>by
  simp only[omap,bL]at h;subst h;simp only[omap,bL]at h';subst h';exact⟨[],rfl,rfl,by simp⟩
 |x::xs,rs,vs,h,h'=>by
  simp only[omap]at h;cases hx:QB p x with
  |none=>simp[hx]at h
  |some r=>
   cases hxs:omap (QB p) xs with
   |none=>simp[hx,hxs]at h
   |some rs'=>
    simp only[hx,hxs,bL]at h;subst h;simp only[omap]at h';cases hv:D0 V.σ τ r with
    |none=>simp[hv]at h'
    |some v=>
     cases hvs:omap (D0 V.σ τ) rs' with
     |none=>simp[hv,hvs]at h'
     |some vs'=>
      simp only[hv,hvs,bL]at h';subst h';obtain⟨u,h1,h2⟩:=alh hS hT hx hv;obtain⟨us,h3,h4⟩:=Yd hS hT hxs hvs;refine⟨u::us,?_,by simp[h4.len],fun i c w hc hw=>?_⟩
      ·simp only[List.mapM_cons,Sem.run_bind,h1,h3,Result.andThen_ok,Sem.run_pure]
      ·cases i with
       |zero=>simp at hc hw;subst hc;subst hw;exact h2
       |succ i=>exact h4.rel i c w (by simpa using hc) (by simpa using hw)
theorem WT{V:View}(hS:cE p cq V){τ:Tm}{nt:Nat}{a:Array Value}(hT:og V τ nt a){gf:Func}{rs:List RV}{v:AV}(hr:omap (QB p) gf.results.toList=some rs)(h:eY rs V.σ τ=some v):∃u,(results gf a).run p V.w=.ok u V.w∧aV V v u:=by
 unfold eY at h;simp only[gE]at h;obtain⟨vs,hvs,hv⟩:=h;obtain⟨us,h1,h2⟩:=Yd hS hT hr hvs
 have hm:(gf.results.mapM fun|.tmp t=>pure (a.getD t undef)|.cell b t=>do loadVar t (←asAddr (a.getD b undef)):Sem (Array Value)).run p V.w=.ok us.toArray V.w:=by
  rw[Array.mapM_eq_mapM_toList,Sem.run_map,h1];rfl
 refine⟨if h:us.toArray.size=1 then us.toArray[0]else .tuple us.toArray,?_,?_⟩
 ·have e:results gf a=((gf.results.mapM fun|.tmp t=>pure (a.getD t undef)|.cell b t=>do loadVar t (←asAddr (a.getD b undef)):Sem (Array Value)) >>= fun vs=>pure (if h:vs.size=1 then vs[0]else .tuple vs)):=rfl
  rw[e,Sem.run_bind,hm];rfl
 ·match us,vs,h2,hv with
  | [u],[v'],h2,hv=>
   simp at hv;subst hv;exact h2.rel 0 _ _ rfl rfl
  | [],[],h2,hv=>subst hv;exact GL (vs:=[]) rfl (by simp)
  |u1::u2::us,v1::v2::vs,h2,hv=>
   have hv':v=w8 (v1::v2::vs):=hv.symm;subst hv';have:¬(u1::u2::us).toArray.size=1:=by simp
   rw[dif_neg this];exact GL h2.len h2.rel
  | [],_::_,h2,_=>exact absurd h2.len (by simp)
  |_::_,[],h2,_=>exact absurd h2.len (by simp)
  | [_],_::_::_,h2,_=>exact absurd h2.len (by simp)
  |_::_::_,[_],h2,_=>exact absurd h2.len (by simp)
def NV(p:Program)(F:Fence)(c:Code)(Q:Exit→Act→World→Prop):Nat→Act→World→Prop
 |0,_,_=>False
 |n+1,a,w=>c.wpIn F 0 p (Exit.then (NV p F c Q n) Q) a w
theorem least{P:Nat→Prop}(h:∃n,P n):∃n,P n∧∀m,P m→n≤m:=by
 obtain⟨n,hn⟩:=h
 induction n using Nat.strongRecOn with
 |_ n ih=>
  by_cases hx:∃m,m<n∧P m
  ·obtain⟨m,h1,h2⟩:=hx
   exact ih m h1 h2
  ·exact⟨n,hn,fun m hm=>by
    rcases UB m n with h|h
    ·exact absurd ⟨m,h,hm⟩ hx
    ·exact h⟩
open Classical in
theorem ahh {F:Fence} {c:Code} {Q:Exit→Act→World→Prop} {a:Act} {w:World} (h:∃ n,NV p F c Q n a w):(Code.loop c).wpIn F 0 p Q a w:=by
  refine wpIn_loop (fun a w=>∃ n,NV p F c Q n a w) (fun a w=>if h:∃ n,NV p F c Q n a w then (least h).choose else 0) h (fun a w h=>?_)
  have hs:=(least h).choose_spec;cases hn:(least h).choose with
  | zero=>rw [hn] at hs;exact hs.1.elim
  | succ n=>
    rw [hn] at hs;refine wpIn_mono hs.1 (fun e a' w' he=>?_)
    cases e<;>first
      | exact he
      | (have h':∃ n,NV p F c Q n a' w':=⟨n,he⟩
         refine ⟨h',?_⟩
         simp only [dif_pos h,dif_pos h']
         rw [hn];exact Nat.lt_succ_of_le ((least h').choose_spec.2 n he))
end
theorem cE.apD{V:View}(hS:cE p cq V){b:Nat}{o:Go.Obj}(h1:¬V.ok b)(h2:¬V.owned b) :
  cE p cq ⟨V.own,V.σ,V.ok,V.w.putObj b o⟩∧Ext V ⟨V.own,V.σ,V.ok,V.w.putObj b o⟩∧∀V0:View,V0.w.heap.size≤b→Step V0 V→Step V0 ⟨V.own,V.σ,V.ok,V.w.putObj b o⟩:=by
 have other:∀r,r≠b→(V.w.putObj b o).heap[r]?=V.w.heap[r]? := fun r hr=>World.putObj_heap_other hr
 have e:Ext V ⟨V.own,V.σ,V.ok,V.w.putObj b o⟩:=⟨fun _ h=>h,fun r hr=>other r (fun hx=>h1 (hx ▸ hr)),fun c s hs=>⟨s,hs,s.le_refl rfl⟩⟩
 refine⟨⟨hS.len,?_,hS.one,hS.apart,?_,?_⟩,e,fun V0 hb hs=>⟨hs.ext.trans e,by simpa using hs.size,fun r hr hno=>?_,hs.E5,hs.xg,hs.env⟩⟩
 ·intro c l ob hl ho
  cases hlive:ob.live with
  |false=>cases ob<;>first|trivial|(simp[Obj.live]at hlive)
  |true=>exact zC.mono e (fun r hr=>other r (fun hx=>h2 (hx ▸ ⟨c,l,ob,hl,ho,hlive,hr⟩))) (hS.obj c l ob hl ho)
 ·intro r hr
  have:=hS.lt r hr;simpa using this
 ·intro r hr
  have:=hS.xe r hr;simpa using this
 ·exact(other r (by omega)).trans (hs.keep r hr hno)
def akr(b:Nat):Deferred:={ target:=.collected b,args:=#[] }
theorem Oy{gf:Func}{τ:Tm}{nt:Nat}{tmps:Array Value}{rs:List RV}(hrs:omap (QB p) gf.results.toList=some rs){v:AV}{V0:View}{σ:ae}:∀(bs:List Nat) {V:View},V.σ=σ→cE p cq V→og V τ nt tmps→bs.Nodup →
  (∀b∈bs,V0.w.heap.size≤b∧b<V.w.heap.size∧V.w.heap[b]?=some (.deferred (some []))∧¬V.ok b∧¬V.owned b)→Step V0 V→eY rs σ τ=some v →
  LeavesInM Fence.wide 0 p gf tmps (fun e w'=>∃u,e=.returned u∧Left p cq V0 v (gc V0.σ.length [v] σ) u w') (bs.map akr) .returning V.w
 | [],V,hσ,hS,hT,_,_,hst,hres=>by
  subst hσ;obtain⟨u,h1,h2⟩:=WT hS hT hrs hres;obtain⟨own',k1,k2,k3,_⟩:=hS.gc V0.σ.length [v];exact⟨u,h1,u,rfl,own',V.ok,k1,k2 v (by simp) u h2,k3 V0 (qj _) hst⟩
 |b::bs,V,hσ,hS,hT,hnd,hb,hst,hres=>by
  obtain⟨b1,b2,b3,b4,b5⟩:=hb b (by simp)
  rw[List.nodup_cons]at hnd;obtain⟨k1,k2,k3⟩:=hS.apD (o:=.deferred none) b4 b5;refine⟨by simp,.inl ⟨b,V.w.putObj b (.deferred none),rfl,run_takeDeferred b3,?_⟩⟩
  refine Oy hrs bs (V:=⟨V.own,V.σ,V.ok,V.w.putObj b (.deferred none)⟩) hσ k1 (hT.mono k2) hnd.2 (fun c hc=>?_) (k3 V0 b1 hst) hres
  obtain⟨c1,c2,c3,c4,c5⟩:=hb c (by simp[hc])
  have hne:c≠b:=fun hx=>hnd.1 (hx ▸ hc)
  exact⟨c1,by simpa using c2,by rw[World.putObj_heap_other hne];exact c3,c4,c5⟩
theorem OA:∀(l:List AV) (n t:Nat),lk (number n l) t=if n≤t then(l[t-n]?).getD .any else .any
 | [],n,t=>by simp[number,lk]
 |a::l,n,t=>by
  simp only[number,lk];rw[OA l (n+1) t];by_cases h:n=t
  ·subst h
   simp
  ·rw[if_neg h]
   by_cases h':n+1≤t
   ·rw[if_pos h',if_pos (by omega),show t-n=(t-(n+1))+1 by omega]
    rfl
   ·rw[if_neg h',if_neg (by omega)]
theorem Y1{V:View}{args:List AV}{vs:List Value}(hr:oe V args vs){nt:Nat}(hlen:args.length≤nt)(hsm:nt≤1000000):og V (uf args) nt (vs.toArray++Array.replicate (nt-vs.toArray.size) undef):=by
 refine⟨by simp;have:=hr.len;omega,hsm,fun t=>?_⟩
 show aV V (lk (number 0 args) t) _;rw[OA];simp only[UC,if_true,Nat.sub_zero];by_cases ht:t<args.length
 ·have ht':t<vs.length:=by have:=hr.len;omega
  have:(vs.toArray++Array.replicate (nt-vs.toArray.size) undef).getD t undef=vs[t]:=by
   rw[UK,Array.getElem?_append_left (by simpa using ht')]
   simp[ht']
  rw[this,oh ht];exact hr.rel t _ _ (oh ht) (oh ht')
 ·rw[aa3 (by omega)]
  exact .any _
theorem XA{fn:cZ}{args:List AV}{σ:ae}{e:Ex}{st':St}{v:AV}(hx:Ji p cq fn.body { τ:=uf args,σ:=σ,nt:=fn.ntmps } e st')(hlen:args.length≤fn.ntmps)(hne:∀i,e≠.exit i)(hr:eY fn.results st'.σ st'.τ=some v){f:FuncId}(hF:OV p cq f fn) :
  Jh p cq f args σ v (gc σ.length [v] st'.σ):=by
 intro own ok w vs hS hrel;obtain⟨gf,code,h1,h2,h3,h4,h5,h6,h7⟩:=hF.ok;refine callsIn_of_wp_marks h1 h2 trivial ?_;have hT:=Y1 (V:=⟨own,σ,ok,w⟩) hrel hlen h5;rw[h4]at hT
 have hN:zB p cq ⟨own,σ,ok,w⟩ { τ:=uf args,σ:=σ,nt:=fn.ntmps } w.heap.size Fence.wide { tmps:=vs.toArray++Array.replicate (gf.ntmps-vs.toArray.size) undef,defers:=[] } :=
  ⟨hS,by rw[h4];exact hT,⟨[],rfl,List.nodup_nil,by simp⟩,rfl⟩
 refine hx code h7 own ok w _ w.heap.size Fence.wide hN (qj _) _ (fun own' ok' w' a' hN' hst=>?_)
 obtain⟨bs,hds,hnd,hbs⟩:=hN'.d;have key:=Oy (cq:=cq) (τ:=st'.τ) (nt:=st'.nt) (tmps:=a'.tmps) h6 (v:=v) (V0:=⟨own,σ,ok,w⟩) (σ:=st'.σ) bs (V:=⟨own',st'.σ,ok',w'⟩) rfl hN'.s hN'.t hnd hbs hst hr;cases e with
 |normal=>show LeavesInM _ _ _ _ _ _ a'.defers _ _;rw[hds];exact key
 |ret=>show LeavesInM _ _ _ _ _ _ a'.defers _ _;rw[hds];exact key
 |exit i=>exact absurd rfl (hne i)
section
variable (p:Program) (cq:FuncId→Bool)
def Xo:Prop:=∀(id:Nat) (ops:Array Oper) (is:List fG),is.length=ops.size→(∀(j:Nat) (o:Oper) (i:fG),ops[j]?=some o→is[j]?=some i→IOk p ops o i)→∀(st st':St),(DN cq ops.toList is=true∨∃prs,xL cq ops.toList is prs=true∧(x9 is prs st'.τ ||Af is prs st st')=true)→vi p cq is st st' →
 ∀(own:List Loc) (ok:Nat→Prop) (w:World) (a:Act) (base:Nat) (F:Fence),zB p cq ⟨own,st.σ,ok,w⟩ st base F a →
  ∀Q:Exit→Act→World→Prop,(∀(own':List Loc) (ok':Nat→Prop) (w':World) (a':Act),zB p cq ⟨own',st'.σ,ok',w'⟩ st' base F a'→Step ⟨own,st.σ,ok,w⟩ ⟨own',st'.σ,ok',w'⟩→Q .normal a' w')→(Code.region id ops true).wpIn F 0 p Q a w
structure OX (P:Prog):Prop where
 fn:∀f fn,P.fn f=some fn→OV p cq f fn
 imp:∀f fn,P.fn f=some fn→fn.imp=true→cq f=false
 Qg:∀f g,P.Qg f=some g→∀(args:List AV) (σ:ae) (v:AV) (σ':ae),g args σ=some (v,σ')→jR p cq f args σ v σ'
 draw:Xo p cq
end
theorem Ab{f:FuncId}{fn:cZ}(h:OV p cq f fn)(args:Array Value)(w:World):(callFunc f args).run p w=.ok (.enter f args) w:=by
 obtain⟨gf,code,h1,h2,h3,_⟩:=h.ok;have h3':¬gf.name = "runtime.NumGoroutine" := by simpa using h3
 simp[callFunc,h1,h2,h3']
theorem J2{f:FuncId}{fn:cZ}(hF:OV p cq f fn){args:List AV}{σ σ':ae}{v:AV}(h:Jh p cq f args σ v σ'):Cj p cq f args σ v σ':=by
 intro own ok w vs hS hr;rw[Ab hF];exact h own ok w vs hS hr
theorem ahV{f:FuncId}{fn:cZ}(hF:OV p cq f fn){ps:List PV}{v1:AV}{σ1:ae}{r:PV}(h:Jh p cq f (ps.map .p) [] v1 σ1)(hr:az σ1 depth v1=some r):acP p f ps r:=by
 intro ok w vs hok hl hrel;rw[Ab hF];refine(h [] ok w vs (cE.empty ok w hok) ⟨by simpa using hl,fun i c v hc hv=>?_⟩).mono (fun e w' ⟨u,e1,own',ok',k1,k2,k3⟩=>⟨u,e1,?_⟩)
 ·rw[xF,gE]at hc
  obtain⟨q,hq,rfl⟩:=hc;exact .p (hrel i q v hq hv)
 ·have hno:∀r,¬(View.mk [] [] ok w).owned r:=by rintro r ⟨b,l,o,h1,_⟩;simp at h1
  refine⟨fun b=>ok' b∨View.blocks ⟨own',σ1,ok',w'⟩ (refs σ1 depth v1) b,Cw k1 depth v1 r u hr k2,fun b hb=>.inl (k3.ext.ok b hb),?_,?_,k3.size,fun b hb=>k3.keep b hb (hno b),k3.env⟩
  ·rintro b (hb|⟨c,_,hc,_⟩)
   ·rcases k3.E5 b hb with h|h|h
    ·exact .inl h
    ·exact .inr h
    ·exact absurd h (hno b)
   ·rcases k3.xg b ⟨c,hc⟩with h|h
    ·exact absurd h (hno b)
    ·exact .inr h
  ·rintro b (hb|⟨c,_,hc,_⟩)
   ·exact k1.xe b hb
   ·exact k1.lt b ⟨c,hc⟩
theorem oe.append{V:View}{xs ys:List AV}{vs us:List Value}(h:oe V xs vs)(h':oe V ys us):oe V (xs++ys) (vs++us):=by
 refine⟨by simp[h.len,h'.len],fun i c v hc hv=>?_⟩
 by_cases hi:i<xs.length
 ·rw[ym hi]at hc
  rw[ym (by rw[←h.len];exact hi)]at hv
  exact h.rel i c v hc hv
 ·rw[CG (by omega)]at hc
  rw[CG (by rw[←h.len];omega),←h.len]at hv
  exact h'.rel _ c v hc hv
theorem adJ{V:View}{g:AV}{f:FuncId}{cap:List AV}(hg:PO g=some (f,cap)){gv:Value}(hv:aV V g gv):∃caps:List Value,gv=.func (.func f) #[] caps.toArray∧oe V cap caps:=by
 unfold PO at hg;split at hg
 ·simp only[bL,pY]at hg
  obtain⟨rfl,rfl⟩:=hg;cases hv with
  |p h=>
  cases h with
  |fn _ cs vs hl h=>
  exact⟨vs,rfl,by simpa using hl,fun i c v hc hv=>by
   rw[xF,gE]at hc;obtain⟨q,hq,rfl⟩:=hc;exact .p (h i q v hq hv)⟩
 ·simp only[bL,pY]at hg
  obtain⟨rfl,rfl⟩:=hg;cases hv with
  |fn _ cs vs hl h=>exact⟨vs,rfl,hl,h⟩
 ·cases hg
theorem RU{g:AV}{f:FuncId}{cap:List AV}(hg:PO g=some (f,cap)){args:List AV}{σ σ':ae}{v:AV}(h:jR p cq f (args++cap) σ v σ'):Ck p cq g args σ v σ':=by
 intro own ok w gv vs hS hv hr;obtain⟨caps,rfl,hc⟩:=adJ hg hv;refine⟨{ target:=.fn (.func f) caps.toArray,args:=vs.toArray },by simp[Deferred.ofValue],?_⟩
 have:=G9 h own ok w _ hS (hr.append hc);simpa[invoke]using this
theorem RW{l:Nat}{args:List AV}{σ σ':ae}{v:AV}(h:IX p cq l args σ v σ'):Ck p cq (.yield l) args σ v σ':=by
 intro own ok w gv vs hS hv hr;obtain⟨⟨o,ho,hsh⟩,h⟩:=h;cases hv with
 |yield _ r s hs hb=>
 have hs':s=.loop:=by
  rw[←hsh];simpa[View.sh,ho]using hs.symm
 obtain⟨x,hx⟩:=hS.nA ho;refine⟨{ target:=.fn (.yield r) #[],args:=vs.toArray },by simp[Deferred.ofValue],?_⟩
 simp only[invoke];exact h own ok w x r vs hS hx (hb hs' x hx) hr
theorem EY{V:View}(hS:cE p cq V){l:Nat}{x:Loc}{τ:List (Nat×AV)}{nt:Nat}{ps:List Nat}{gP body:K}{s:Option Ex}(hx:V.own[l]?=some x)(ho:V.σ[l]?=some (.loop τ nt ps gP body s)):∃r L,x.iL=some r∧UH p cq V r τ nt ps gP body s L:=hS.obj l x _ hx ho
theorem OE{V:View}(hS:cE p cq V){l r:Nat}{x:Loc}{τ:List (Nat×AV)}{nt:Nat}{ps:List Nat}{gP body:K}{s:Option Ex}(hx:V.own[l]?=some x)(ho:V.σ[l]?=some (.loop τ nt ps gP body s))(hr:x.iL=some r){L:Loop}(hL:UH p cq V r τ nt ps gP body s L)
  (s':Option Ex) {L':Loop} (ha:L'.assign=L.assign) (hb:L'.body=L.body) (hp:L'.params=L.params) (ht:L'.tmps=L.tmps) (hst:OY s' L') :
  cE p cq ⟨V.own,V.σ.set l (.loop τ nt ps gP body s'),V.ok,V.w.putObj r (.loop L')⟩∧Step V ⟨V.own,V.σ.set l (.loop τ nt ps gP body s'),V.ok,V.w.putObj r (.loop L')⟩:=by
 have hrlt:r<V.w.heap.size:=(Q6.1 hL.heap).1
 have key:=hS.Mp (l':=x) (o':=.loop τ nt ps gP body s') (w':=V.w.putObj r (.loop L')) hx ho rfl (by simp[Obj.sh,Sh.le]) rfl (by simp) (fun r' _ hne=>World.putObj_heap_other (fun h=>hne (by rw[h];exact hr))) (fun r' _ h=>.inl h)
  (fun e=>⟨r,L',hr,World.putObj_heap_same hrlt,hst,by rw[ha];exact hL.gP,by rw[hb];exact hL.body,by rw[hp];exact hL.ps,by rw[ht];exact hL.size,hL.small,fun t=>by rw[ht];exact(hL.tmps t).mono e⟩)
 rw[Mg hx]at key;exact key
theorem KX{V V':View}(e:Ext V V'){l:Nat}{x:Loc}{τ τ':List (Nat×AV)}{nt nt':Nat}{ps ps':List Nat}{gP body asg' body':K}{s s':Option Ex}(hx:V.own[l]?=some x)(ho:V.σ[l]?=some (.loop τ nt ps gP body s))(ho':V'.σ[l]?=some (.loop τ' nt' ps' asg' body' s')):V'.own[l]?=some x:=by
 obtain⟨sh,h1,h2⟩:=e.sh l .loop (by simp[View.sh,ho,Obj.sh])
 have:sh=.loop:=by simpa[View.sh,ho',Obj.sh]using h1.symm
 subst this;have h2':V'.own[l]?=V.own[l]? := h2;rw[h2',hx]
theorem ahg{l τ:List (Nat×AV)}{t k:Nat}{x:AV}(h:∀y∈l,y.1≠t):lk (l++(t,x)::τ) k=lk ((t,x)::(l++τ)) k:=by
 induction l with
 |nil=>rfl
 |cons y l ih=>
  have hy:=h y (by simp)
  have ih':=ih (fun z hz=>h z (by simp[hz]))
  simp only[Ec,lk];by_cases h1:y.1=k
  ·rw[if_pos h1,if_pos h1,if_neg (fun h2=>hy (by rw[h1,h2]))]
  ·rw[if_neg h1,if_neg h1,ih']
   simp only[lk]
theorem SD{V:View}{nt:Nat}:∀(ps:List Nat) (xs:List AV) (vs:List Value) (τ:List (Nat×AV)) (tmps:Array Value),nodup ps=true→ps.all (· < nt)=true→ps.length=xs.length→oe V xs vs→og V (tm τ) nt tmps →
  og V (tm (ps.zip xs++τ)) nt ((ps.zip vs).foldl (fun tmps (x:Nat×Value)=>tmps.setIfInBounds x.1 x.2) tmps)
 | [],_,_,τ,tmps,_,_,_,_,h=>by simpa using h
 |t::ps,x::xs,v::vs,τ,tmps,hnd,hlt,hl,hr,h=>by
  simp only[nodup,yE,abF]at hnd;simp only[UA,yE,decide_eq_true_eq]at hlt;have h1:og V (tm ((t,x)::τ)) nt (tmps.setIfInBounds t v):=h.put hlt.1 (hr.rel 0 x v rfl rfl);have key:=SD ps xs vs ((t,x)::τ) _ hnd.2 hlt.2 (by simpa using hl) ⟨by simpa using hr.len,fun i c u hc hu=>hr.rel (i+1) c u (by simpa using hc) (by simpa using hu)⟩ h1
  have e:tm ((t::ps).zip (x::xs)++τ)=tm (ps.zip xs++(t,x)::τ):=by
   unfold tm
   congr 1
   funext k
   rw[ahg]
   ·rfl
   ·intro y hy hx
    have:=(List.of_mem_zip (show(y.1,y.2)∈ps.zip xs from hy)).1;rw[hx]at this;have hc:ps.contains t=true:=by simpa using this
    rw[hc]at hnd;cases hnd.1
  rw[e];simpa using key
 |_::_,[],_,_,_,_,_,hl,_,_=>by simp at hl
 |_::_,_::_,[],_,_,_,_,_,hr,_=>absurd hr.len (by simp)
def ajZ:Ex→Bool
 |.normal=>true
 |_=>false
def adx:Ex→Option Ex
 |.normal=>none
 |e=>some e
theorem afm{l:Nat}{args:List AV}{σ:ae}{τ:List (Nat×AV)}{nt:Nat}{ps:List Nat}{gP b:K}(ho:σ[l]?=some (.loop τ nt ps gP b none))(hlen:ps.length=args.length)(hnd:nodup ps=true)(hsm:ps.all (· < nt)=true){st1:St}(h1:Ji p cq gP { τ:=tm (ps.zip args++τ),σ:=σ,nt:=nt,rd:=some l } .normal st1)
  {τ1:List (Nat×AV)} {nt1:Nat} {ps1:List Nat} {asg1 b1:K} (ho1:st1.σ[l]?=some (.loop τ1 nt1 ps1 asg1 b1 none)) {e:Ex} {st2:St} (h2:Ji p cq b { st1 with σ:=st1.σ.set l (.loop τ1 nt1 ps1 asg1 b1 (some .normal)) } e st2)
  {τ2:List (Nat×AV)} {nt2:Nat} {ps2:List Nat} {asg2 b2:K} (ho2:st2.σ[l]?=some (.loop τ2 nt2 ps2 asg2 b2 (some .normal))) :
  IX p cq l args σ (.p (.bool (ajZ e))) (gc σ.length [] (st2.σ.set l (.loop τ2 nt2 ps2 asg2 b2 (adx e)))):=by
 refine⟨⟨_,ho,rfl⟩,fun own ok w x r vs hS hx hr hrel=>?_⟩
 obtain⟨r',L,hr',hL⟩:=EY hS hx ho;have:r'=r:=by rw[hr]at hr';cases hr';rfl
 subst this
 have hps:vs.toArray.size=L.params.size:=by
  have e1:=hL.ps;have e2:L.params.size=ps.length:=by rw[←e1];simp
  have:=hrel.len;simp
  omega
 rw[run_yield hL.heap hps];show RoundIn Fence.wide 0 p r' L.fn _ L.assign L.body w _
 have hfold:(L.params.zip vs.toArray).foldl (fun tmps (t,a)=>tmps.setIfInBounds t a) L.tmps=(ps.zip vs).foldl (fun tmps (x:Nat×Value)=>tmps.setIfInBounds x.1 x.2) L.tmps:=by
  rw[←Array.foldl_toList,Array.toList_zip,hL.ps]
 rw[hfold];have hT0:og ⟨own,σ,ok,w⟩ (tm τ) nt L.tmps:=⟨hL.size,hL.small,hL.tmps⟩;have hT:=SD ps args vs τ L.tmps hnd hsm hlen hrel hT0;refine roundIn_of_wpIn trivial ?_;refine h1 L.assign hL.gP own ok w _ 0 (Fence.wide.inRound r') ⟨hS,hT,⟨[],rfl,List.nodup_nil,by simp⟩,⟨r',rfl,.inl ⟨by simp[View.sh,ho,Obj.sh],x,hx,hr⟩⟩⟩ (UC _) _ (fun own1 ok1 w1 a1 hN1 s1=>?_)
 have hx1:=KX s1.ext hx ho ho1;obtain⟨r1,L1,hr1,hL1⟩:=EY hN1.s hx1 ho1;have:r1=r':=by rw[hr]at hr1;cases hr1;rfl
 subst this;obtain⟨q1,q2⟩:=hL1.state;refine⟨_,run_beginRound hL1.heap q1,?_⟩;obtain⟨g1,g2⟩:=OE hN1.s hx1 ho1 hr hL1 (some .normal) (L':={ L1 with state:=.busy }) rfl rfl rfl rfl rfl
 have hN2:=(hN1.step g2 g1).store (σ':=st1.σ.set l (.loop τ1 nt1 ps1 asg1 b1 (some .normal)));refine h2 L.body hL.body own1 ok1 _ a1 0 _ hN2 (UC _) _ (fun own3 ok3 w3 a3 hN3 s3=>?_)
 have hol:l<st1.σ.length:=(gu.1 ho1).1;have hx3:=KX (V:=⟨own1,st1.σ.set l (.loop τ1 nt1 ps1 asg1 b1 (some .normal)),ok1,w1.putObj r1 (.loop { L1 with state:=.busy })⟩) s3.ext hx1 (Xp hol) ho2
 obtain⟨r3,L3,hr3,hL3⟩:=EY hN3.s hx3 ho2;have:r3=r1:=by rw[hr]at hr3;cases hr3;rfl
 subst this
 have fin:∀(jump:Option Code) (s':Option Ex) (bv:Bool),jump.isNone=bv→OY s' { L3 with state:=if jump.isNone then .ready else .done,pending:=jump } →
   ∃v w',(Instr.endRound r3 jump).run p w3=.ok v w'∧∃u,Ending.returned v=.returned u∧Left p cq ⟨own,σ,ok,w⟩ (.p (.bool bv)) (gc σ.length [] (st2.σ.set l (.loop τ2 nt2 ps2 asg2 b2 s'))) u w':=by
  intro jump s' bv hb hst;refine⟨_,_,run_endRound jump hL3.heap,_,rfl,?_⟩;obtain⟨k1,k2⟩:=OE hN3.s hx3 ho2 hr hL3 s' (L':={ L3 with state:=if jump.isNone then .ready else .done,pending:=jump }) rfl rfl rfl rfl hst
  obtain⟨own4,m1,_,m3,_⟩:=k1.gc σ.length [];refine⟨own4,ok3,m1,by rw[hb];exact .p (.bool _),m3 ⟨own,σ,ok,w⟩ (qj _) (((s1.trans g2).trans s3).trans k2)⟩
 cases e with
 |normal=>exact fin none none true rfl ⟨rfl,rfl⟩
 |ret=>exact fin (some .ret) (some .ret) false rfl ⟨rfl,rfl⟩
 |exit i=>exact fin (some (.exit i)) (some (.exit i)) false rfl ⟨rfl,rfl⟩
theorem rI.more{V:View}{base:Nat}{ds:List Deferred}(h:rI V base ds){own':List Loc}{σ':ae}(ho:∀r,View.owned ⟨own',σ',V.ok,V.w⟩ r→V.owned r):rI ⟨own',σ',V.ok,V.w⟩ base ds:=by
 obtain⟨bs,h1,h2,h3⟩:=h;refine⟨bs,h1,h2,fun b hb=>?_⟩
 obtain⟨k1,k2,k3,k4,k5⟩:=h3 b hb;exact⟨k1,k2,k3,k4,fun hx=>k5 (ho b hx)⟩
theorem TK{own:List Loc}{ok:Nat→Prop}{w:World}{st:St}{base:Nat}{F:Fence}{a:Act}(hN:zB p cq ⟨own,st.σ,ok,w⟩ st base F a)(hbase:base≤w.heap.size)(har:rZ st.rd st.σ=true){ps:Array Tmp}{c d:Code}{gP b:K}(ha:AU p cq gP c)(hb:AU p cq b d)(lv:List Nat)(fn:FuncId) :
  ∃(l:Nat) (mark:List Deferred) (w1:World) (L:Loop),(Instr.enterLoop fn a.tmps ps c d F.round).run p w=.ok (l,mark) w1 ∧
   cE p cq ⟨own++[⟨some l,0⟩],st.σ++[.loop (st.τ.kept lv) st.nt ps.toList gP b none],ok,w1⟩ ∧
   Step ⟨own,st.σ,ok,w⟩ ⟨own++[⟨some l,0⟩],st.σ++[.loop (st.τ.kept lv) st.nt ps.toList gP b none],ok,w1⟩ ∧
   rI ⟨own++[⟨some l,0⟩],st.σ++[.loop (st.τ.kept lv) st.nt ps.toList gP b none],ok,w1⟩ base (mark++a.defers)∧L.fn=fn:=by
 have build:∀(w0:World) (df:Nat),env w0=env w→w.heap.size≤w0.heap.size→(∀r,r<w.heap.size→w0.heap[r]?=w.heap[r]?) →
   cE p cq ⟨own++[⟨some w0.heap.size,0⟩],st.σ++[.loop (st.τ.kept lv) st.nt ps.toList gP b none],ok,w0.alloc (.loop { state:=.ready,pending:=none,fn,tmps:=a.tmps,params:=ps,assign:=c,body:=d,defers:=df })⟩ ∧
   Step ⟨own,st.σ,ok,w⟩ ⟨own++[⟨some w0.heap.size,0⟩],st.σ++[.loop (st.τ.kept lv) st.nt ps.toList gP b none],ok,w0.alloc (.loop { state:=.ready,pending:=none,fn,tmps:=a.tmps,params:=ps,assign:=c,body:=d,defers:=df })⟩:=by
  intro w0 df henv hsz hk;refine hN.s.push ⟨some w0.heap.size,0⟩ _ _ henv (by simp;omega) (fun r hr=>?_) (fun r hr=>?_) (fun e=>?_)
  ·have hr':r<w.heap.size:=hr
   rw[heap_alloc_old _ _ _ (by omega)]
   exact hk r hr'
  ·simp only[bL]at hr
   subst hr;exact⟨hsz,by simp⟩
  ·exact⟨w0.heap.size,_,rfl,heap_alloc_new _ _,⟨rfl,rfl⟩,ha,hb,rfl,hN.t.size,hN.t.small,fun t=>((hN.t.keep lv).get t).mono e⟩
 unfold ve at *;have hf:=hN.f;cases hrd:st.rd with
 |none=>
  rw[hrd]at hf;have hF:F=Fence.wide:=hf;subst hF;obtain⟨k1,k2⟩:=build (w.alloc (.deferred (some []))) w.heap.size rfl (by simp) (fun r hr=>heap_alloc_old _ _ _ hr)
  have hsz:(w.alloc (.deferred (some []))).heap.size=w.heap.size+1:=by simp
  rw[hsz]at k1 k2;refine⟨w.heap.size+1,[{ target:=.collected w.heap.size,args:=#[] }],_,{ state:=.ready,pending:=none,fn,tmps:=a.tmps,params:=ps,assign:=c,body:=d,defers:=w.heap.size },run_enterLoop_outer fn a.tmps ps c d,k1,k2,?_,rfl⟩;obtain⟨bs,h1,h2,h3⟩:=hN.d.mono k2;obtain⟨bs0,h10,_,h30⟩:=hN.d
  have hbs:bs=bs0:=by
   have e1:=h1.symm.trans h10
   have inj:∀(xs ys:List Nat),xs.map (fun b=>({ target:=.collected b,args:=#[] }:Deferred))=ys.map (fun b=>{ target:=.collected b,args:=#[] })→xs=ys:=by
    intro xs
    induction xs with
    |nil=>intro ys h;cases ys with|nil=>rfl|cons=>simp at h
    |cons x xs ih=>
     intro ys h;cases ys with
     |nil=>simp at h
     |cons y ys=>
      simp only[ue,List.cons.injEq,Deferred.mk.injEq,Target.collected.injEq,and_true]at h;rw[h.1,ih ys h.2]
   exact inj _ _ e1
  subst hbs;have hlt:∀b∈bs,b<w.heap.size:=fun b hb=>(h30 b hb).2.1
  refine⟨w.heap.size::bs,by rw[h1];rfl,List.nodup_cons.2 ⟨fun hx=>Nat.lt_irrefl _ (hlt _ hx),h2⟩,fun b hb=>?_⟩
  rcases qL.1 hb with rfl|hb
  ·refine⟨hbase,by simp;omega,?_,fun hx=>?_,?_⟩
   ·rw[heap_alloc_old _ _ _ (by simp)]
    exact heap_alloc_new _ _
   ·have:w.heap.size<w.heap.size:=hN.s.xe _ hx
    omega
   ·rintro⟨c',lc,o,g1,g2,g3,g4⟩
    simp only at g1 g2
    by_cases hc:c'<st.σ.length
    ·rw[ym (by have:=hN.s.len;simp at this;omega)]at g1
     rw[ym hc]at g2;have:w.heap.size<w.heap.size:=hN.s.lt _ ⟨c',lc,o,g1,g2,g3,g4⟩;omega
    ·have hlen:own.length=st.σ.length:=hN.s.len
     have hcl:=(gu.1 g1).1;simp at hcl;have:c'=own.length:=by omega
     subst this;simp at g1;subst g1;simp at g4
  ·exact h3 b hb
 |some m=>
  rw[hrd]at hf har;obtain⟨r,hF,hloop⟩:=hf;subst hF
  have hm:∃τ nt ps gP body s,st.σ[m]?=some (.loop τ nt ps gP body s):=by
   unfold rZ at har
   simp only at har
   split at har
   ·rename_i h;exact⟨_,_,_,_,_,_,h⟩
   ·cases har
  obtain⟨τ',nt',ps',asg',body',s',hm⟩:=hm;rcases hloop with⟨hsh,x,hx,hxr⟩|hgone
  ·obtain⟨r',L,hr',hL⟩:=EY hN.s hx hm
   have:r'=r:=by rw[hxr]at hr';cases hr';rfl
   subst this;obtain⟨k1,k2⟩:=build w L.defers rfl (qj _) (fun _ _=>rfl)
   refine⟨w.heap.size,[],_,{ state:=.ready,pending:=none,fn,tmps:=a.tmps,params:=ps,assign:=c,body:=d,defers:=L.defers },?_,k1,k2,hN.d.mono k2,rfl⟩;have hg:=run_getLoop (P:=p) hL.heap;simp only[Instr.enterLoop,Fence.inRound_round,Sem.run_bind,hg,Result.andThen_ok,Sem.run_pure,run_newObj_alloc]
  ·simp[View.sh,hm,Obj.sh]at hgone
theorem TM{g:Operand}{g':O}(hg:fD g=some g'){ps:Array Tmp}{c d:Code}{gP b:K}(ha:AU p cq gP c)(hb:AU p cq b d){lv:List Nat}{st:St}{f:FuncId}{cap:List AV}(hfn:PO (g'.val st.τ)=some (f,cap)){fn:cZ}(hF:OV p cq f fn)(har:rZ st.rd st.σ=true)
  {v:AV} {σ':ae} (hcall:Jh p cq f (.yield st.σ.length::cap) (st.σ++[.loop (st.τ.kept lv) st.nt ps.toList gP b none]) v σ') {τ2:List (Nat×AV)} {nt2:Nat} {ps2:List Nat} {asg2 b2:K} {s:Option Ex} (ho:σ'[st.σ.length]?=some (.loop τ2 nt2 ps2 asg2 b2 s)) (hs:s≠some .normal) {e:Ex} (he:e=s.getD .normal)
  {own:List Loc} {ok:Nat→Prop} {w:World} {a:Act} {base:Nat} {F:Fence} (hN:zB p cq ⟨own,st.σ,ok,w⟩ st base F a) (hbase:base≤w.heap.size) {Q:Exit→Act→World→Prop}
  (hQ:∀(own':List Loc) (ok':Nat→Prop) (w':World) (a':Act),zB p cq ⟨own',gc st.σ.length [] (σ'.set st.σ.length .gone),ok',w'⟩ { st with σ:=gc st.σ.length [] (σ'.set st.σ.length .gone) } base F a'→Step ⟨own,st.σ,ok,w⟩ ⟨own',gc st.σ.length [] (σ'.set st.σ.length .gone),ok',w'⟩→Q (Mm e) a' w') :
  (Code.rangeFunc g ps c d).wpIn F 0 p Q a w:=by
 obtain⟨f1,f2,f3,f4⟩:=hN.f.wide;refine wpIn_rangeFunc (fun fnid _=>?_)
 obtain⟨l,mark,w1,L,hent,hS1,s1,hd1,_⟩:=TK hN hbase har (ps:=ps) ha hb lv fnid;obtain⟨caps,hgv,hcap⟩:=adJ hfn (bm hN.t hg);refine⟨l,mark,w1,{ target:=.fn (.func f) caps.toArray,args:=#[.func (.yield l) #[] #[]] },w1,f,#[.func (.yield l) #[] #[]]++caps.toArray,w1,hent,?_,fun _ _=>f1 _,?_,fun h=>by rw[f2]at h;simp at h,?_⟩
 ·have hy:a.eval (.const (.func (.yield l) #[] #[]))=.func (.yield l) #[] #[]:=rfl
  simp[resolve,hgv,hy,Deferred.ofValue]
 ·simp only[invoke]
  exact Ab hF _ _
 ·rw[f3]
  have hlast:(own++[(⟨some l,0⟩:Loc)])[st.σ.length]?=some ⟨some l,0⟩:=by
   have:own.length=st.σ.length:=hN.s.len;rw[←this];simp
  have hrel:oe ⟨own++[⟨some l,0⟩],st.σ++[.loop (st.τ.kept lv) st.nt ps.toList gP b none],ok,w1⟩ (.yield st.σ.length::cap) (.func (.yield l) #[] #[]::caps):=by
   refine⟨by simp[hcap.len],fun i cc u hc hu=>?_⟩
   cases i with
   |zero=>
    simp at hc hu;subst hc;subst hu;exact .yield _ l .loop (by simp[View.sh,Obj.sh]) (fun _ x hx=>by rw[hlast]at hx;cases hx;rfl)
   |succ i=>exact(hcap.rel i cc u (by simpa using hc) (by simpa using hu)).mono s1.ext
  have hC:=hcall _ _ _ _ hS1 hrel;have hargs:(Value.func (.yield l) #[] #[]::caps).toArray = #[.func (.yield l) #[] #[]]++caps.toArray:=by simp
  rw[hargs]at hC;refine hC.mono (fun en w3 ⟨u,e1,own3,ok3,g1,g2,g3⟩=>?_)
  subst e1;have hx3:=KX (V:=⟨own++[⟨some l,0⟩],st.σ++[.loop (st.τ.kept lv) st.nt ps.toList gP b none],ok,w1⟩) (τ:=st.τ.kept lv) (nt:=st.nt) (ps:=ps.toList) (gP:=gP) (body:=b) (s:=none) g3.ext hlast (by simp) ho
  obtain⟨r3,L3,hr3,hL3⟩:=EY g1 hx3 ho;have:r3=l:=by simpa using hr3.symm
  subst this;have hst3:=hL3.state
  have hbusy:L3.state≠.busy:=by
   cases s with
   |none=>rw[hst3.1];simp
   |some e'=>cases e' with
    |normal=>exact absurd rfl hs
    |ret=>rw[hst3.1];simp
    |exit i=>rw[hst3.1];simp
  refine⟨L3.pending,_,run_endLoop hL3.heap hbusy,?_⟩;have hlt3:r3<w3.heap.size:=(Q6.1 hL3.heap).1;obtain⟨m1,m2⟩:=g1.Mp (l':=⟨some r3,0⟩) (o':=.gone) (w':=w3.putObj r3 (.loop { L3 with state:=.exhausted })) hx3 ho rfl (by simp[Obj.sh,Sh.le]) rfl (by simp) (fun r' _ hne=>World.putObj_heap_other (fun h=>hne (by rw[h]))) (fun r' h=>by simp[Obj.live]at h) (fun _=>trivial)
  obtain⟨own4,n1,_,n3,n4⟩:=m1.gc st.σ.length [];have hstep:=n3 ⟨own,st.σ,ok,w⟩ (qj _) ((s1.trans g3).trans m2)
  have hnow:zB p cq ⟨own4,gc st.σ.length [] (σ'.set st.σ.length .gone),ok3,w3.putObj r3 (.loop { L3 with state:=.exhausted })⟩ { st with σ:=gc st.σ.length [] (σ'.set st.σ.length .gone) } base F { a with defers:=mark++a.defers } :=
   ⟨n1,hN.t.mono hstep.ext,((hd1.mono g3).mono m2).more n4,hN.f.mono hstep.ext⟩
  have fin:=hQ own4 ok3 _ _ hnow hstep;clear hnow hstep n1 n3 n4 m1 m2;generalize w3.putObj r3 (.loop { L3 with state:=.exhausted })=w4 at fin ⊢
  subst he;cases s with
  |none=>
   rw[hst3.2];exact fin
  |some e'=>cases e' with
   |normal=>exact absurd rfl hs
   |ret=>
    rw[hst3.2];exact wpIn_ret fin
   |exit i=>
    rw[hst3.2];exact wpIn_exit fin
section
variable (p:Program) (cq:FuncId→Bool)
def NU(b:K)(st:St)(e:Ex)(st':St):Prop :=
 ∀(code:Code),AU p cq b code→∃n,∀(own:List Loc) (ok:Nat→Prop) (w:World) (a:Act) (base:Nat) (F:Fence),zB p cq ⟨own,st.σ,ok,w⟩ st base F a→base≤w.heap.size →
  ∀Q:Exit→Act→World→Prop,(∀(own':List Loc) (ok':Nat→Prop) (w':World) (a':Act),zB p cq ⟨own',st'.σ,ok',w'⟩ st' base F a'→Step ⟨own,st.σ,ok,w⟩ ⟨own',st'.σ,ok',w'⟩→Q (Mm e) a' w')→NV p F code Q n a w
def M1(c:K)(st:St)(r:Ex×St):Prop:=Ji p cq c st r.1 r.2∧((∀lv b,c=.loop lv b→NU p cq b st r.1 r.2)∧(c=.skip→r=(.normal,st)))∧r.2.rd=st.rd
def M2(fn:cZ)(args:List AV)(σ:ae)(r:AV×ae):Prop:=∀f,OV p cq f fn→Jh p cq f args σ r.1 r.2
end
theorem Da{c:K}{st:St}{r:Ex×St}(hrd:r.2.rd=st.rd)(h:Ji p cq c st r.1 r.2)(hn:(∀lv b,c≠.loop lv b)∧c≠.skip):M1 p cq c st r:=⟨h,⟨fun lv b hc=>absurd hc (hn.1 lv b),fun hc=>absurd hc hn.2⟩,hrd⟩
theorem Xl{c:Code}{F:Fence}{n:Nat}{Q Q':Exit→Act→World→Prop}{a:Act}{w:World}(h:c.wpIn F n p Q' a w)(hq:∀e a w,Q' e a w→Q e a w∧∀l,e≠.goto l):(Code.scope c).wpIn F n p Q a w:=by
 intro b k cs hro hb hr;have h0:(lone (b.atR a (.code (.scope c)::k)) cs w).fenced p F:=fenced_calm hb hr rfl;have s0:Go.step p (lone (b.atR a (.code (.scope c)::k)) cs w)=.next (lone (b.atR a (.code c::.inScope c::k)) cs w):=step_lone_go (by simp[stepG,stepG.exec,Frame.atR])
 have s1:∀a w,Go.step p (lone (b.atR a (.inScope c::k)) cs w)=.next (lone (b.atR a k) cs w):=fun a w=>step_lone_go (by simp[stepG,stepG.exec,Frame.atR])
 obtain⟨e,a₁,w₁,hq1,harr⟩:=h b (.inScope c::k) cs hro hb hr;obtain⟨hq2,hg⟩:=hq e a₁ w₁ hq1;cases e with
 |normal=>exact⟨.normal,a₁,w₁,hq2,.head h0 s0 (StepsIn.trans harr (.one (fenced_calm hb hr rfl) (s1 a₁ w₁)))⟩
 |exit id=>
  have hx:exitTo id (.inScope c::k)=exitTo id k:=by simp[exitTo]
  exact⟨.exit id,a₁,w₁,hq2,fun k' hk=>.head h0 s0 (harr.1 k' (by rw[hx];exact hk)),
   fun hr' hk=>let ⟨k₁,h1,h2⟩:=harr.2 hr' (by rw[hx];exact hk);⟨k₁,h1,.head h0 s0 h2⟩⟩
 |goto l=>exact absurd rfl (hg l)
 |ret=>exact⟨_,a₁,w₁,hq2,.of_steps (.one h0 s0) harr⟩
 |panic ch=>exact⟨_,a₁,w₁,hq2,.of_steps (.one h0 s0) harr⟩
 |outgrown=>exact⟨_,a₁,w₁,hq2,.of_steps (.one h0 s0) harr⟩
theorem Uj(e:Ex)(l:Nat):Mm e≠.goto l:=by cases e<;>simp[Mm]
theorem GI{own:List Loc}{ok:Nat→Prop}{w:World}{st:St}{base:Nat}{F:Fence}{a:Act}(hN:zB p cq ⟨own,st.σ,ok,w⟩ st base F a)(lv:List Nat):zB p cq ⟨own,st.σ,ok,w⟩ { st with τ:=st.τ.keep lv } base F a:=⟨hN.s,hN.t.keep lv,hN.d,hN.f⟩
theorem ahb{V V':View}{τ:Tm}{nt:Nat}{a:Array Value}(h:og V τ nt a)(lv:List Nat)(hv:∀x∈lv.map τ.get,∀v,aV V x v→aV V' x v):og V' (τ.keep lv) nt a:=by
 refine⟨h.size,h.small,fun t=>?_⟩
 have:(τ.keep lv).get t=.any∨((τ.keep lv).get t=τ.get t∧τ.get t∈lv.map τ.get):=by
  unfold Tm.keep Tm.kept tm;dsimp only
  induction lv with
  |nil=>exact .inl rfl
  |cons x r ih=>
   simp only[ue,lk];by_cases e:x=t
   ·subst e
    exact .inr ⟨by simp,by simp⟩
   ·rw[if_neg e]
    rcases ih (fun y hy=>hv y (by simp only[ue,qL];exact .inr hy))with h|⟨h1,h2⟩
    ·exact .inl h
    ·exact .inr ⟨h1,by simp only[qL];exact .inr h2⟩
 rcases this with e|⟨e,hm⟩
 ·rw[e]
  exact .any _
 ·rw[e]
  exact hv _ hm _ (h.get t)
theorem ae9{st st':St}{d:Option Nat}{v:AV}(h:st.put d v=some st'):st'.rd=st.rd:=by
 unfold St.put at h;split at h
 ·cases h;rfl
 ·split at h
  ·cases h;rfl
  ·cases h
theorem vi.rd{is:List fG}{st st':St}(h:vi p cq is st st'):st'.rd=st.rd:=by
 induction h with
 |nil=>rfl
 |cons i r st st1 st' hf _ ih=>
  rw[ih];obtain⟨w,_,⟨_,v,σ',_,hp⟩|⟨_,hp⟩⟩:=hf
  ·exact ae9 (st:={ st with σ:=σ' }) hp
  ·exact ae9 hp
theorem sound{P:Prog}(hP:OX p cq P):(∀(c:K) (st:St) (r:Ex×St),exec P c st=some r→M1 p cq c st r) ∧
  (∀(fn:cZ) (args:List AV) (σ:ae) (r:AV×ae),call P fn args σ=some r→M2 p cq fn args σ r) ∧
  (∀(ops:List fG) (st r:St),fA P ops st=some r→vi p cq ops st r) ∧
  (∀(g:AV) (args:List AV) (σ:ae) (r:AV×ae),rk P g args σ=some r→Ck p cq g args σ r.1 r.2) ∧
  (∀(l:Nat) (args:List AV) (σ:ae) (r:AV×ae),round P l args σ=some r→IX p cq l args σ r.1 r.2) ∧
  (∀(f:FuncId) (args:List AV) (σ:ae) (r:AV×ae),kV P f args σ=some r→jR p cq f args σ r.1 r.2):=by
 refine exec.mutual_partial_correctness P (M1 p cq) (M2 p cq) (vi p cq) (fun g args σ r=>Ck p cq g args σ r.1 r.2) (fun l args σ r=>IX p cq l args σ r.1 r.2) (fun f args σ r=>jR p cq f args σ r.1 r.2) ?_ ?_ ?_ ?_ ?_ ?_
 ·
  intro exec' call' execOps' hexec hcall hops c st r h;cases c with
  |skip=>
   simp only[bL]at h;subst h;refine⟨fun code hk own ok w a base F hN _ Q hQ=>?_,⟨fun lv b hc=>(by cases hc),fun _=>rfl⟩,rfl⟩
   cases hk with
   |skip=>exact wpIn_skip (hQ own ok w a hN (Step.refl _))
   |label l=>exact wpIn_label (hQ own ok w a hN (Step.refl _))
  |cX draw ops=>
   simp only[Jo,fM,bL]at h;obtain⟨st',h1,rfl⟩:=h;have hR:=hops ops st st' h1;refine Da hR.rd (fun code hk own ok w a base F hN _ Q hQ=>?_) (by simp)
   cases hk with
   |cX id oo _ hO=>exact ZV hO hR hN hQ
   |CO id oo _ hl hi hd=>exact hP.draw id oo ops hl hi st st' (.inl hd) hR own ok w a base F hN Q hQ
  |CO ops prs=>
   simp only[Jo,fM,Option.ite_none_right_eq_some,bL]at h;obtain⟨st',h1,hro,rfl⟩:=h;have hR:=hops ops st st' h1;refine Da hR.rd (fun code hk own ok w a base F hN _ Q hQ=>?_) (by simp)
   cases hk with
   |ah3 id oo _ _ hl hi hd=>exact hP.draw id oo ops hl hi st st' (.inr ⟨prs,hd,hro⟩) hR own ok w a base F hN Q hQ
  |seq a b=>
   simp only[Jo,fM]at h;obtain⟨⟨e,st1⟩,h1,h⟩:=h;have m1:=(hexec a st _ h1).1;have r1:st1.rd=st.rd:=(hexec a st _ h1).2.2;cases e with
   |normal=>
    have m2:=(hexec b st1 _ h).1;refine Da ((hexec b st1 _ h).2.2.trans r1) (fun code hk own ok w ac base F hN hb Q hQ=>?_) (by simp)
    cases hk with
    |seq _ _ c d hc hd=>
     exact wpIn_seq (m1 c hc own ok w ac base F hN hb _ (fun own1 ok1 w1 a1 hN1 s1=>m2 d hd own1 ok1 w1 a1 base F hN1 (UO hb s1.size) Q (fun own2 ok2 w2 a2 hN2 s2=>hQ own2 ok2 w2 a2 hN2 (s1.trans s2))))
    |scope _ c hc=>
     have e1:=(hexec .skip st _ h1).2.1.2 rfl;simp only[pY,true_and]at e1;subst e1;exact Xl (m2 c hc own ok w ac base F hN hb (fun e a w=>Q e a w∧∀l,e≠.goto l) (fun own2 ok2 w2 a2 hN2 s2=>⟨hQ own2 ok2 w2 a2 hN2 s2,Uj _⟩)) (fun _ _ _ h=>h)
   |exit i=>
    simp only[bL]at h;subst h;refine Da r1 (fun code hk own ok w ac base F hN hb Q hQ=>?_) (by simp)
    cases hk with
    |seq _ _ c d hc hd=>
     exact wpIn_seq (m1 c hc own ok w ac base F hN hb _ (fun own1 ok1 w1 a1 hN1 s1=>hQ own1 ok1 w1 a1 hN1 s1))
    |scope _ c hc=>
     have e1:=(hexec .skip st _ h1).2.1.2 rfl;simp at e1
   |ret=>
    simp only[bL]at h;subst h;refine Da r1 (fun code hk own ok w ac base F hN hb Q hQ=>?_) (by simp)
    cases hk with
    |seq _ _ c d hc hd=>
     exact wpIn_seq (m1 c hc own ok w ac base F hN hb _ (fun own1 ok1 w1 a1 hN1 s1=>hQ own1 ok1 w1 a1 hN1 s1))
    |scope _ c hc=>
     have e1:=(hexec .skip st _ h1).2.1.2 rfl;simp at e1
  |cond c a b=>
   simp only[Jo,fM]at h;obtain⟨t,ht,h⟩:=h;refine Da (by cases t<;>simp at h;exact(hexec _ _ _ h).2.2;exact(hexec _ _ _ h).2.2) (fun code hk own ok w ac base F hN hb Q hQ=>?_) (by simp)
   cases hk with
   |cond x _ _ _ c' d hx hc hd=>
   have hv:=wR ht (bm hN.t hx);refine wpIn_cond hv ?_;cases t with
   |true=>
    simp only[if_true]at h ⊢;exact(hexec a st r h).1 c' hc own ok w ac base F hN hb Q hQ
   |false=>
    simp only[nh,if_false]at h ⊢;exact(hexec b st r h).1 d hd own ok w ac base F hN hb Q hQ
  |block id b=>
   simp only[Jo,fM]at h;obtain⟨⟨e,st1⟩,h1,h⟩:=h;have m1:=(hexec b st _ h1).1;have r1:st1.rd=st.rd:=(hexec b st _ h1).2.2
   have r2:r.2.rd=st1.rd:=by
    cases e with
    |exit i=>simp only at h;split at h<;>(cases h;rfl)
    |_=>cases h;rfl
   refine Da (r2.trans r1) (fun code hk own ok w ac base F hN hb Q hQ=>?_) (by simp)
   cases hk with
   |block _ _ c hc=>
   refine wpIn_block (m1 c hc own ok w ac base F hN hb _ (fun own1 ok1 w1 a1 hN1 s1=>?_))
   cases e with
   |normal=>
    simp only[bL]at h;subst h;exact hQ own1 ok1 w1 a1 hN1 s1
   |ret=>
    simp only[bL]at h;subst h;exact hQ own1 ok1 w1 a1 hN1 s1
   |exit i=>
    simp only at h
    show Exit.inBlock id Q (.exit i) a1 w1;simp only[Exit.inBlock];split at h
    ·rename_i hi
     simp only[bL]at h;subst h;rw[if_pos hi];exact hQ own1 ok1 w1 a1 hN1 s1
    ·rename_i hi
     simp only[bL]at h;subst h;rw[if_neg hi];exact hQ own1 ok1 w1 a1 hN1 s1
  |loop lv b=>
   simp only[Jo,fM]at h;obtain⟨⟨e,st1⟩,h1,h⟩:=h;have m1:=(hexec b _ _ h1).1;have r1:st1.rd=st.rd:=(hexec b _ _ h1).2.2
   have r2:r.2.rd=st1.rd:=by
    cases e with
    |normal=>exact(hexec _ _ _ h).2.2
    |_=>cases h;rfl
   have claim:NU p cq b st r.1 r.2:=by
    intro code hk;cases e with
    |normal=>
     obtain⟨n,hn⟩:=(hexec (.loop lv b) _ _ h).2.1.1 lv b rfl code hk;refine⟨n+1,fun own ok w a base F hN hb Q hQ=>?_⟩
     refine m1 code hk own ok w a base F (GI hN lv) hb _ (fun own1 ok1 w1 a1 hN1 s1=>?_)
     obtain⟨own2,g1,g2,g3,g4⟩:=hN1.s.gc st.σ.length (lv.map st1.τ.get);have s2:=g3 ⟨own,st.σ,ok,w⟩ (qj _) s1;refine hn own2 ok1 w1 a1 base F ⟨g1,ahb hN1.t lv g2,hN1.d.more g4,by show ve _ st1.rd F;rw[r1];exact hN.f.mono s2.ext⟩ (UO hb s1.size) Q (fun own3 ok3 w3 a3 hN3 s3=>hQ own3 ok3 w3 a3 hN3 (s2.trans s3))
    |exit i=>
     simp only[bL]at h;subst h;exact⟨1,fun own ok w a base F hN hb Q hQ=>m1 code hk own ok w a base F (GI hN lv) hb _ (fun own1 ok1 w1 a1 hN1 s1=>hQ own1 ok1 w1 a1 hN1 s1)⟩
    |ret=>
     simp only[bL]at h;subst h;exact⟨1,fun own ok w a base F hN hb Q hQ=>m1 code hk own ok w a base F (GI hN lv) hb _ (fun own1 ok1 w1 a1 hN1 s1=>hQ own1 ok1 w1 a1 hN1 s1)⟩
   refine⟨fun code hk own ok w a base F hN hb Q hQ=>?_,⟨fun lv' b' hc=>by cases hc;exact claim,fun hc=>by cases hc⟩,r2.trans r1⟩
   cases hk with
   |loop _ _ c hc=>
   obtain⟨n,hn⟩:=claim c hc;exact ahh ⟨n,hn own ok w a base F hN hb Q hQ⟩
  |range g ps lv gP b=>
   simp only[Jo,fM]at h;obtain⟨⟨f,cap⟩,hfn,fn,hF,h⟩:=h;split at h
   ·rename_i hcond
    simp only[yE]at hcond;simp only[fM]at h;obtain⟨⟨v,σ'⟩,hc,h⟩:=h;refine Da (by simp only at h;split at h<;>(first|(cases h;rfl)|cases h)) (fun code hk own ok w ac base F hN hb Q hQ=>?_) (by simp)
    cases hk with
    |range g0 _ ps0 _ _ _ c d hg ha hbd=>
    have hcall':=hcall fn _ _ _ hc f (hP.fn f fn hF)
    simp only at h
    split at h
    ·rename_i ho
     simp only[bL]at h;subst h;exact TM hg ha hbd hfn (hP.fn f fn hF) hcond.1 hcall' ho (by simp) (by rfl) hN hb hQ
    ·cases h
    ·rename_i e hne ho
     simp only[bL]at h;subst h;exact TM hg ha hbd hfn (hP.fn f fn hF) hcond.1 hcall' ho (by simpa using hne) (by rfl) hN hb hQ
    ·cases h
   ·cases h
  |exit id=>
   simp only[bL]at h;subst h;refine Da rfl (fun code hk own ok w a base F hN _ Q hQ=>?_) (by simp)
   cases hk;exact wpIn_exit (hQ own ok w a hN (Step.refl _))
  |ret=>
   simp only[bL]at h;subst h;refine Da rfl (fun code hk own ok w a base F hN _ Q hQ=>?_) (by simp)
   cases hk;exact wpIn_ret (hQ own ok w a hN (Step.refl _))
  |bad w=>cases h
 ·
  intro exec' hexec fn args σ r h f hF;split at h
  ·rename_i hlen
   simp only[Jo,fM]at h;obtain⟨⟨e,st1⟩,h1,h⟩:=h;have m1:=(hexec fn.body _ _ h1).1;cases e with
   |exit i=>cases h
   |normal=>
    simp only[fM,bL]at h;obtain⟨v,hv,rfl⟩:=h;exact XA m1 hlen (by simp) hv hF
   |ret=>
    simp only[fM,bL]at h;obtain⟨v,hv,rfl⟩:=h;exact XA m1 hlen (by simp) hv hF
  ·cases h
 ·
  intro call' execOps' callV' callF' hC hops hV hF ops st r h;cases ops with
  |nil=>
   simp only[bL]at h;subst h;exact .nil _
  |cons o ops=>
   simp only[Jo,fM]at h;obtain⟨wt,hw,h⟩:=h;cases wt with
   |false=>
    simp only[nh,if_false,fM]at h;obtain⟨st1,h1,h2⟩:=h;exact .cons _ _ _ st1 _ ⟨false,hw,.inr ⟨rfl,h1⟩⟩ (hops _ _ _ h2)
   |true=>
    simp only[if_true]at h
    have fin:∀v σ',DD p cq st o.op v σ'→(St.put { st with σ:=σ' } o.dst v).bind (execOps' ops)=some r→vi p cq (o::ops) st r:=by
     intro v σ' hf hx;simp only[fM]at hx;obtain⟨st1,h1,h2⟩:=hx;exact .cons _ _ _ st1 _ ⟨true,hw,.inl ⟨rfl,v,σ',hf,h1⟩⟩ (hops _ _ _ h2)
    split at h
    ·rename_i f args he
     simp only[fM]at h;obtain⟨⟨v,σ'⟩,h1,h2⟩:=h;exact fin v σ' (by rw[he];exact hF _ _ _ _ h1) (by simpa[fM]using h2)
    ·rename_i x args he
     simp only[fM]at h;obtain⟨⟨v,σ'⟩,h1,h2⟩:=h;exact fin v σ' (by rw[he];exact hV _ _ _ _ h1) (by simpa[fM]using h2)
    ·rename_i f args he
     simp only[fM]at h;obtain⟨fn,hfn,⟨v,σ'⟩,h1,h2⟩:=h;exact fin v σ' (by rw[he];exact J2 (hP.fn f fn hfn) (hC fn _ _ _ h1 f (hP.fn f fn hfn))) (by simpa[fM]using h2)
    ·rename_i hn1 hn2 hn3
     simp only[fM]at h;obtain⟨⟨v,σ'⟩,h1,h2⟩:=h;refine fin v σ' ?_ (by simpa[fM]using h2)
     unfold DD;split
     ·rename_i he;exact absurd he (hn1 _ _)
     ·rename_i he;exact absurd he (hn2 _ _)
     ·rename_i he;exact absurd he (hn3 _ _)
     ·exact h1
 ·
  intro round' callF' hround hF g args σ r h;split at h
  ·exact RU rfl (hF _ _ _ _ h)
  ·exact RU rfl (hF _ _ _ _ h)
  ·exact RW (hround _ _ _ _ h)
  ·cases h
 ·
  intro exec' hexec l args σ r h;split at h
  ·rename_i τ nt ps gP b ho
   split at h
   ·rename_i hcond
    simp only[Jo,fM]at h;obtain⟨⟨e,st1⟩,h1,h⟩:=h;have m1:=(hexec gP _ _ h1).1;cases e with
    |normal=>
     simp only at h
     split at h
     ·rename_i τ1 nt1 ps1 asg1 b1 ho1
      simp only[fM]at h;obtain⟨⟨e2,st2⟩,h2,h⟩:=h;have m2:=(hexec b _ _ h2).1
      simp only at h
      split at h
      ·rename_i τ2 nt2 ps2 asg2 b2 ho2
       simp only[bL]at h;subst h;have key:=afm ho hcond.1 hcond.2.1 hcond.2.2 m1 ho1 m2 ho2;cases e2<;>exact key
      ·cases h
     ·cases h
    |exit i=>cases h
    |ret=>cases h
   ·cases h
  ·cases h
 ·
  intro call' hcall f args σ r h;split at h
  ·rename_i g hg
   exact hP.Qg f g hg args σ r.1 r.2 h
  ·simp only[Jo,fM]at h
   obtain⟨fn,hF,h⟩:=h;split at h
   ·rename_i himp
    exact .inr ⟨hP.imp f fn hF himp,J2 (hP.fn f fn hF) (hcall fn _ _ _ h f (hP.fn f fn hF))⟩
   ·simp only[fM]at h
    obtain⟨ps,hps,⟨v1,σ1⟩,h1,rr,hr,h⟩:=h;simp only[bL]at h;subst h;exact .inl ⟨ps,rr,hps,ahV (hP.fn f fn hF) (hcall fn _ _ _ h1 f (hP.fn f fn hF)) hr,rfl,rfl⟩
end Go.AE
