import Derived.Test.YtpccheodgonkkaaGreatZj
import Derived.Test.YtpccheodgonkkaaGreatZb
import Derived.Test.YtpccheodgonkkaaGreatC0
import Derived.Shelf.SlSortCmp.NoneTotal
import Derived.Shelf.Small.Strs
import Derived.WalkKit
import Derived.Test.YtpccheodgonkkaaGreatE0
import Derived.Shelf.SlicesE.Clone
set_option maxHeartbeats 0
set_option linter.unusedSimpArgs false
set_option linter.unusedVariables false
namespace Go.Proofs.YtpccheodgonkkaaGreat
open Go Go.AE Go.AE.S Go.Proofs
open Go.Shelf Go.RowKit Go.Lib Go.Sort
def Ua:Go.Shelf.Ren:=⟨fun|6=>159|15=>216|14=>215|28=>248|29=>249|20=>240|21=>241|22=>242|23=>243|24=>244|25=>245|26=>246|27=>247|46=>258|47=>259|48=>260|49=>261|50=>262|57=>270|n=>n,fun|22=>52|24=>103|25=>171|3=>3|39=>138|0=>0|53=>215|55=>24|4=>4|46=>209|45=>208|50=>178|5=>5|9=>9|66=>220|70=>224|76=>227|77=>228|n=>n,fun|n=>n⟩
theorem Jc:Go.Proofs.SlLaysF0.n6 Tryz.prog Ua:={
 mixed:=by kernel_rfl,
 f6:=⟨Tryz.f159.name,by decide,Tryz.func159.trans (congrArg some (by kernel_rfl))⟩,
 f14:=⟨Tryz.f215.name,by decide,Tryz.func215.trans (congrArg some (by kernel_rfl))⟩,
 f15:=Tryz.func216.trans (congrArg some (by kernel_rfl)),
 f20:=⟨Tryz.f240.name,by decide,Tryz.func240.trans (congrArg some (by kernel_rfl))⟩,
 f21:=⟨Tryz.f241.name,by decide,Tryz.func241.trans (congrArg some (by kernel_rfl))⟩,
 f22:=⟨Tryz.f242.name,by decide,Tryz.func242.trans (congrArg some (by kernel_rfl))⟩,
 f23:=⟨Tryz.f243.name,by decide,Tryz.func243.trans (congrArg some (by kernel_rfl))⟩,
 f24:=⟨Tryz.f244.name,by decide,Tryz.func244.trans (congrArg some (by kernel_rfl))⟩,
 f25:=⟨Tryz.f245.name,by decide,Tryz.func245.trans (congrArg some (by kernel_rfl))⟩,
 f26:=⟨Tryz.f246.name,by decide,Tryz.func246.trans (congrArg some (by kernel_rfl))⟩,
 f27:=⟨Tryz.f247.name,by decide,Tryz.func247.trans (congrArg some (by kernel_rfl))⟩,
 f28:=Tryz.func248.trans (congrArg some (by kernel_rfl)),
 f29:=Tryz.func249.trans (congrArg some (by kernel_rfl)),
 f46:=⟨Tryz.f258.name,by decide,Tryz.func258.trans (congrArg some (by kernel_rfl))⟩,
 f47:=Tryz.func259.trans (congrArg some (by kernel_rfl)),
 f48:=Tryz.func260.trans (congrArg some (by kernel_rfl)),
 f49:=⟨Tryz.f261.name,by decide,Tryz.func261.trans (congrArg some (by kernel_rfl))⟩,
 f50:=⟨Tryz.f262.name,by decide,Tryz.func262.trans (congrArg some (by kernel_rfl))⟩,
 f57:=⟨Tryz.f270.name,by decide,Tryz.func270.trans (congrArg some (by kernel_rfl))⟩,
 t0:=Tryz.underlying0,
 a0:=Tryz.isAgg0,
 z0:=Tryz.sizeOf0,
 v0:=Tryz.zeroValue0,
 t3:=Tryz.underlying3,
 a3:=Tryz.isAgg3,
 z3:=Tryz.sizeOf3,
 v3:=Tryz.zeroValue3,
 t4:=Tryz.underlying4,
 a4:=Tryz.isAgg4,
 z4:=Tryz.sizeOf4,
 v4:=Tryz.zeroValue4,
 t5:=Tryz.underlying5,
 a5:=Tryz.isAgg5,
 z5:=Tryz.sizeOf5,
 v5:=Tryz.zeroValue5,
 t9:=Tryz.underlying9,
 a9:=Tryz.isAgg9,
 z9:=Tryz.sizeOf9,
 v9:=Tryz.zeroValue9,
 t22:=Tryz.underlying52,
 a22:=Tryz.isAgg52,
 z22:=Tryz.sizeOf52,
 v22:=Tryz.zeroValue52,
 t25:=Tryz.underlying171,
 a25:=Tryz.isAgg171,
 z25:=Tryz.sizeOf171,
 v25:=Tryz.zeroValue171,
 t39:=Tryz.underlying138,
 a39:=Tryz.isAgg138,
 z39:=Tryz.sizeOf138,
 v39:=Tryz.zeroValue138,
 t45:=Tryz.underlying208,
 a45:=Tryz.isAgg208,
 z45:=Tryz.sizeOf208,
 v45:=Tryz.zeroValue208,
 t46:=Tryz.underlying209,
 a46:=Tryz.isAgg209,
 z46:=Tryz.sizeOf209,
 v46:=Tryz.zeroValue209,
 t50:=Tryz.underlying178,
 a50:=Tryz.isAgg178,
 z50:=Tryz.sizeOf178,
 v50:=Tryz.zeroValue178,
 t53:=Tryz.underlying215,
 a53:=Tryz.isAgg215,
 z53:=Tryz.sizeOf215,
 v53:=Tryz.zeroValue215,
 t55:=Tryz.underlying24,
 a55:=Tryz.isAgg24,
 z55:=Tryz.sizeOf24,
 v55:=Tryz.zeroValue24,
 t66:=Tryz.underlying220,
 a66:=Tryz.isAgg220,
 z66:=Tryz.sizeOf220,
 v66:=Tryz.zeroValue220,
 t70:=Tryz.underlying224,
 a70:=Tryz.isAgg224,
 z70:=Tryz.sizeOf224,
 v70:=Tryz.zeroValue224,
 t76:=Tryz.underlying227,
 a76:=Tryz.isAgg227,
 z76:=Tryz.sizeOf227,
 v76:=Tryz.zeroValue227,
 t77:=Tryz.underlying228,
 a77:=Tryz.isAgg228,
 z77:=Tryz.sizeOf228,
 v77:=Tryz.zeroValue228}
def T9:Go.Shelf.Ren:=⟨fun|106=>188|213=>227|265=>252|n=>n,fun|9=>9|3=>3|n=>n,fun|n=>n⟩
theorem sortStr:Go.Proofs.Lays.n106 Tryz.prog T9:={
 mixed:=by kernel_rfl,
 f106:=Tryz.func188.trans (congrArg some (by kernel_rfl)),
 f213:=Tryz.func227.trans (congrArg some (by kernel_rfl)),
 f265:=Tryz.func252.trans (congrArg some (by kernel_rfl)),
 t3:=Tryz.underlying3,
 a3:=Tryz.isAgg3,
 z3:=Tryz.sizeOf3,
 v3:=Tryz.zeroValue3,
 t9:=Tryz.underlying9,
 a9:=Tryz.isAgg9,
 z9:=Tryz.sizeOf9,
 v9:=Tryz.zeroValue9}
def cfV(x y:V2):Int:=Lib.compareBytes x.name.data.toList y.name.data.toList
theorem R5(x y:V2)(W:World):Calls Tryz.prog 214 #[.agg #[.string x.name,.int .i64 x.w],.agg #[.string y.name,.int .i64 y.w]] W fun e w'=>e=.returned (.int .i64 (cfV x y))∧∃q os',w'=grow (W.drewN q) os':=by
 have hcon:=fun W'=>Any.strings_Compare sortStr x.name y.name W'
 change ∀W',Calls Tryz.prog 188 _ _ _ at hcon;unfold cfV;generalize Lib.compareBytes x.name.data.toList y.name.data.toList=r at hcon ⊢
 go_enter Tryz.func214,Tryz.ntmps214
 go_wp2_with (go_at_call 188;refine(hcon _).mono ?_;rintro e w' ⟨rfl,rfl⟩)
 go_ret
 exact⟨rfl,0,_,by rw[alloc_eq_grow,alloc_eq_grow,grow_grow];rfl⟩
theorem PA(x y:V2):ltOf cfV x y=slt x.name y.name:=by
 unfold ltOf cfV;rw[N8];rcases qJ x.name y.name with h|h|h
 ·rw[alI h,h];rfl
 ·rw[h,alG,gq];rfl
 ·rw[alH h,sH h];rfl
theorem apT:SWO (ltOf cfV) where
 irrefl x:=by rw[PA,gq]
 trans x y z h1 h2:=by rw[PA]at *;exact ry h1 h2
 ntrans x y z h1 h2:=by
  rw[PA]at *;rcases qJ x.name y.name with h|h|h
  ·rw[h]at h1;cases h1
  ·rw[h];exact h2
  ·rcases qJ y.name z.name with h'|h'|h'
   ·rw[h']at h2;cases h2
   ·rw[←h'];exact h1
   ·exact sH (ry h' h)
theorem Vv(iL off size:Nat)(w:World):CmpLays Tryz.prog 214 #[] eA 2 cfV iL off size w:=fun _ _ _ _ x y=>R5 x y _
theorem Og(args:Array Value)(w:World):(callFunc 159 args).run Tryz.prog w=.ok (.enter 159 args) w:=enters_of Tryz.func159 (by kernel_rfl) rfl _ _
theorem Y5(args:Array Value)(w:World):(callFunc 214 args).run Tryz.prog w=.ok (.enter 214 args) w:=enters_of Tryz.func214 (by kernel_rfl) rfl _ _
theorem Z6{l m:List V2}(hd:xC l)(hp:m.Perm l)(hs:∀(i j:Nat) (a b:V2),i<j→m[i]?=some a→m[j]?=some b→slt b.name a.name=false):m=cW D7 l:=by
 have hdm:xC m:=(hp.pairwise_iff (fun h e=>h e.symm)).2 hd
 refine G1 (aa7.2 fun i j hi hj hij=>?_) (DP hd) fun x=>?_
 ·have h1:=hs i j m[i] m[j] hij (oh hi) (oh hj)
  have h2:=aa7.1 hdm i j hi hj hij;rcases qJ m[i].name m[j].name with h|h|h
  ·exact h
  ·exact absurd h h2
  ·rw[h]at h1;cases h1
 ·rw[rp];exact hp.mem_iff
theorem Qz:∀{rows:List (List PV)},rows.all V7=true→∃l:List V2,rows=l.map au
 | [],_=>⟨[],rfl⟩
 |r::rows,h=>by
  simp only[UA,yE]at h;obtain⟨l,rfl⟩:=Qz h.2;have h1:=h.1;unfold V7 at h1;split at h1
  ·rename_i s w
   exact⟨⟨s,w⟩::l,rfl⟩
  ·cases h1
theorem XD:∀{l:List V2},Ge S5 (l.map au)=true→xC l
 | [],_=>by simp[xC]
 |a::l,h=>by
  simp only[ue,Ge,yE,List.all_map,AS]at h;refine IY.2 ⟨fun b hb e=>?_,XD h.2⟩
  have:(S5 (au a) (au b) ||S5 (au b) (au a))=true:=h.1 b hb
  rw[zU,zU,D7,D7,e,gq]at this;cases this
end Go.Proofs.YtpccheodgonkkaaGreat
namespace Go.AE
theorem FR{α:Type}{l:List α}{b:Nat}{o:α}(h:l[b]?=some o):l.set b o=l:=by
 apply List.ext_getElem?;intro k;by_cases hk:b=k
 ·subst hk
  rw[Xp (gu.1 h).1,h]
 ·rw[O0 hk]
end Go.AE
namespace Go.Proofs.YtpccheodgonkkaaGreat
open Go Go.AE Go.AE.S Go.Proofs
open Go.Shelf Go.RowKit Go.Lib Go.Sort
theorem yS(d:Array V2)(k:Nat)(hk:k<d.size*2):(flatK eA 2 d)[k]! = if k % 2=0 then .string (d[k / 2]!).name else .int .i64 (d[k / 2]!).w:=by
 rw[get_flatK _ _ _ _ hk];have h2:k % 2=0∨k % 2=1:=by omega
 rcases h2 with h|h<;>rw[h]<;>simp[eA]
theorem Cz{l:List V2}{k:Nat}{a:AV}(h:(ay (l.map au)).flatten[k]?=some a):k<l.length*2∧a=if k % 2=0 then .p (.str (l.toArray[k / 2]!).name)else .p (.int .i64 (l.toArray[k / 2]!).w):=by
 have hw:∀x∈ay (l.map au),x.length=2:=by
  intro x hx;simp only[ay,abW,CV]at hx;obtain⟨v,_,rfl⟩:=hx;rfl
 have hk:=(gu.1 h).1;rw[bU hw]at hk;simp only[ay,bz]at hk;refine⟨hk,?_⟩;obtain⟨i,j,row,rfl,hi,hj⟩:=pj hw h;simp only[ay,abW,xF,gE]at hi;obtain⟨v,hv,rfl⟩:=hi;have hj2:j<2:=(gu.1 hj).1;have e1:(i*2+j) / 2=i:=by omega
 have e2:l.toArray[i]! = v:=by
  have hil:=(gu.1 hv);rw[getElem!_pos _ _ (by simpa using hil.1)]
  simpa using hil.2
 rw[e1,e2];have h2:j=0∨j=1:=by omega
 rcases h2 with rfl|rfl
 ·have:(i*2+0) % 2=0:=by omega
  rw[this];simp[au]at hj;exact hj.symm
 ·have:¬(i*2+1) % 2=0:=by omega
  rw[if_neg this];simp[au]at hj;exact hj.symm
theorem cell_holds{V:View}{l:List V2}{c:Array Value}(hc:∀(k:Nat) (a:AV),(ay (l.map au)).flatten[k]?=some a→∃v,c[k]?=some v∧v.oneCell'=true∧aV V a v)(k:Nat)(hk:k<l.length*2):c[k]?=some ((flatK eA 2 l.toArray)[k]!):=by
 have hlen:(ay (l.map au)).flatten.length=l.length*2:=by
  rw[bU (es:=2) (fun x hx=>by
   simp only[ay,abW,CV]at hx;obtain⟨v,_,rfl⟩:=hx;rfl)]
  simp[ay]
 have hg:(ay (l.map au)).flatten[k]?=some (ay (l.map au)).flatten[k]:=oh (by omega)
 obtain⟨_,ha⟩:=Cz hg;obtain⟨v,h1,_,h2⟩:=hc k _ hg;rw[h1,yS _ _ (by simpa using hk)]
 rw[ha]at h2;split at h2
 ·rename_i h0
  rw[if_pos h0];cases h2 with
  |p h=>cases h;rfl
 ·rename_i h0
  rw[if_neg h0];cases h2 with
  |p h=>cases h;rfl
theorem Ub{l:List V2}{d':Array V2}(hd:xC l)(hp:PermIn 0 l.toArray.size l.toArray d')(hs:SortedIn (ltOf cfV) 0 l.toArray.size d'):d'=(cW D7 l).toArray:=by
 obtain⟨h1,_,h3⟩:=hp;have e1:d'.extract 0 l.toArray.size=d':=by rw[←h1];simp
 have e2:l.toArray.extract 0 l.toArray.size=l.toArray:=by simp
 rw[e1,e2]at h3
 have:d'.toList=cW D7 l:=by
  refine Z6 hd (by simpa using h3) fun i j a b hij ha hb=>?_
  have hj:=(gu.1 hb).1;have h:=hs i j (UC _) hij (by rw[←h1];simpa using hj)
  rw[PA]at h
  have ea:d'[i]! = a:=by
   have hil:=gu.1 ha;rw[getElem!_pos _ _ (by simpa using hil.1)]
   simpa using hil.2
  have eb:d'[j]! = b:=by
   have hil:=gu.1 hb;rw[getElem!_pos _ _ (by simpa using hil.1)]
   simpa using hil.2
  rw[ea,eb]at h;exact h
 rw[←this]
set_option maxRecDepth 100000 in
theorem Z5{args:List AV}{σ σ':ae}{v:AV}(h:uZ 2 dI V7 S5 args σ=some (v,σ')):jR Tryz.prog cq a7 args σ v σ':=by
 refine .inr ⟨rfl,fun own ok w us hS hrel=>?_⟩
 unfold uZ at h;split at h
 rotate_left
 ·cases h
 rename_i b n f;split at h
 rotate_left
 ·cases h
 rename_i hf;subst hf;split at h
 rotate_left
 ·cases h
 rename_i e rows ho;split at h
 rotate_left
 ·cases h
 rename_i hcond;obtain⟨hn,hbig,he,hok,hap⟩:=hcond;simp only[bL,pY]at h;obtain⟨rfl,rfl⟩:=h;obtain⟨l,rfl⟩:=Qz hok;have hd:=XD hap;have hnl:l.length=n:=by simpa using hn
 match us,hrel.len with
 | [x,y],_=>
 have hx:=hrel.rel 0 _ x rfl rfl;have hy:=hrel.rel 1 _ y rfl rfl;obtain⟨lc,hl⟩:=hS.nA ho;have hvec:oT ⟨own,σ,ok,w⟩ lc e (ay (l.map au)):=hS.obj b lc _ hl ho
 have hyv:y=.func (.func dI) #[] #[]:=by
  cases hy with
  |p h=>
   cases h with
   |fn _ _ vs hl _=>
    have:vs=[]:=Jm.1 (by simpa using hl.symm)
    subst this;rfl
 subst hyv
 have hxv:∃ba,x=.slice ba n lc.cap∧(lc.cap≠0→ba=lc.addr):=by
  cases hx with
  |sl _ _ ba c' sh hs hnn hp=>
   have hs':sh=.vec e n:=by
    have:View.sh ⟨own,σ,ok,w⟩ b=some (.vec e n):=by simp[View.sh,ho,Obj.sh,hnl]
    rw[this]at hs;exact(abA hs).symm
   obtain⟨q1,rfl⟩:=hp e lc hs' hl;exact⟨ba,rfl,q1⟩
 obtain⟨ba,rfl,hba⟩:=hxv;show Go.AE.Enters Tryz.prog _ ((callFunc 159 _).run Tryz.prog w);rw[Og];have hunit:∀V:View,aV V (.p (.jO [])) (.tuple #[]):=fun V=>.p (.jO [] [] rfl (by simp))
 by_cases h0:n=0
 ·subst h0
  have hl0:l=[]:=Jm.1 hnl;subst hl0;refine callsIn_wide.2 (Calls.mono (AnyF.slices_SortFunc_none Jc ba lc.cap (.func (.func 214) #[] #[]) w) ?_)
  rintro e' w' ⟨rfl,rfl⟩
  refine⟨_,rfl,own,ok,?_,hunit _,?_⟩
  ·have:σ.set b (.pv e (cW S5 ([].map au)) false)=σ:=FR ho
   rw[this];exact hS
  ·have:σ.set b (.pv e (cW S5 ([].map au)) false)=σ:=FR ho
   rw[this];exact Step.refl _
 ·have hcap:n≤lc.cap:=by have:=hvec.cap;simpa[ay,hnl]using this
  have hcap0:lc.cap≠0:=by omega
  have he2:e=2:=by
   rcases he with h|h
   ·have:=congrArg List.length h;simp at this;subst this;exact absurd hnl.symm h0
   ·exact h
  subst he2
  obtain⟨r,hr⟩:∃r,lc.iL=some r:=by
   cases hb:lc.iL with
   |none=>exact absurd (hvec.nil hb) hcap0
   |some r=>exact⟨r,rfl⟩
  obtain⟨cc,ct,hh,hs,hcc⟩:=hvec.cells r hr;have haddr:lc.addr=some ⟨r,0,none⟩:=by simp[Loc.addr,hr]
  have:=hba hcap0;subst this;rw[haddr];have hrl:r<w.heap.size:=(Q6.1 hh).1;have hcell:=cell_holds hcc
  have hH:HoldsK eA 2 w r 0 l.toArray:=by
   intro j hj;have hj':j<l.length*2:=by simpa using hj
   refine⟨?_,?_⟩
   ·rw[sQ,ji hh,hcell j hj']
    rfl
   ·have hhh:w.heap[r]?=some (.cells cc ct (0,0)):=hh
    simp[World.frozen?,hhh]
  have hcon:=AnyQ.slices_SortFunc Jc 2 Tryz.isAgg103 Tryz.sizeOf103 eA (fun _=>rfl) (fun x v hv=>by simp[eA]at hv;rcases hv with rfl|rfl<;>rfl) cfV apT 214 #[] r 0 lc.cap l.toArray w Y5 (Vv r 0 l.toArray.size w) hH hrl (by simpa[hnl]using hbig)
  have hsz:l.toArray.size=n:=by simpa using hnl
  rw[hsz]at hcon;refine callsIn_wide.2 (Calls.mono hcon ?_)
  rintro e' w' ⟨rfl,d',m,os,hp,hso,rfl⟩
  rw[←hsz]at hp hso;have hd':=Ub hd hp hso;subst hd'
  have hil:(cW D7 l).length=l.length:=by
   have:=hp.1;simpa using this
  have hpk:∀q,(sortWorldK eA 2 w r 0 m (cW D7 l).toArray os).heap[q]?=if q<w.heap.size then(w.heap.modify r (onCells (putCells id 0 (flatK eA 2 (cW D7 l).toArray))))[q]? else os[q-w.heap.size]? := by
   intro q;simp only[sortWorldK,putRowK,grow,putRow,mapBlock,Sort.ahead,Array.getElem?_append,Array.size_modify]
  have key:=hS.Mp (l':=lc) (o':=.pv 2 (cW S5 (l.map au)) false) (w':=sortWorldK eA 2 w r 0 m (cW D7 l).toArray os) hl ho rfl
   (by
    simp only[Obj.sh,Sh.le,tp zU,bz,hil];exact .inl ⟨trivial,.inr trivial,trivial⟩)
   rfl (by simp[sortWorldK,grow,putRowK,putRow,mapBlock,Sort.ahead]) (fun q hq hne=>by
    rw[hpk,if_pos hq,abp,if_neg (fun e=>hne (by rw[hr,e]))])
   (fun q _ hq=>.inl hq) (fun ee=>by
    have e9:ay (cW S5 (l.map au))=ay ((cW D7 l).map au):=by rw[tp zU]
    show oT _ lc 2 (ay (cW S5 (l.map au)));rw[e9];refine⟨?_,?_,hvec.nil,fun h=>by omega,fun q hq=>?_⟩
    ·intro y hy
     simp only[ay,abW,CV]at hy;obtain⟨v,_,rfl⟩:=hy;rfl
    ·simp only[ay,bz,hil,hnl];exact hcap
    ·rw[hr,bL]at hq
     subst hq;have hhh:w.heap[r]?=some (.cells cc ct (0,0)):=hh;refine⟨putCells id 0 (flatK eA 2 (cW D7 l).toArray) cc,ct,?_,?_,fun k a ha=>?_⟩
     ·rw[hpk,if_pos hrl,abp,if_pos rfl,hhh]
      rfl
     ·simpa[putCells]using hs
     ·obtain⟨hk,rfl⟩:=Cz ha
      have hkc:k<cc.size:=by
       have:n*2≤lc.cap*2:=Jn _ hcap;rw[hil,hnl]at hk;omega
      refine⟨(flatK eA 2 (cW D7 l).toArray)[k]!,?_,?_,?_⟩
      ·simp only[putCells,Array.getElem?_mapIdx,abm hkc,vd,UC,true_and,sQ,size_flatK,Nat.sub_zero,id]
       rw[if_pos (by simpa using hk)]
      ·rw[yS _ _ (by simpa using hk)]
       split<;>rfl
      ·rw[yS _ _ (by simpa using hk)]
       split
       ·exact .p (.str _)
       ·exact .p (.int _ _))
  exact⟨_,rfl,_,_,key.1,hunit _,key.2⟩
theorem Pz(x y:V2):ltOf RX x y=ml x y:=by
 unfold ltOf RX YM YL ml slt;cases h1:Op.bytesLess x.name.toList y.name.toList with
 |true=>rfl
 |false=>
  by_cases h2:x.name.toList=y.name.toList
  ·by_cases h3:x.w<y.w
   ·simp[h2,h3]
   ·by_cases h4:y.w<x.w<;>simp[h2,h3,h4]
  ·simp[h2]
theorem aou:SWO (ltOf RX) where
 irrefl x:=by rw[Pz,xQ]
 trans x y z h1 h2:=by rw[Pz]at *;exact w6 h1 h2
 ntrans x y z h1 h2:=by
  rw[Pz]at *;cases h:ml x z with
  |false=>rfl
  |true=>
   rcases E1 x y with h3|rfl|h3
   ·rw[h3]at h1;cases h1
   ·rw[h]at h2;cases h2
   ·have:=w6 h3 h;rw[this]at h2;cases h2
theorem Vu(iL off size:Nat)(w:World):CmpLays Tryz.prog 160 #[] eA 2 RX iL off size w:=fun _ _ _ _ x y=>adb x y _
theorem Y3(args:Array Value)(w:World):(callFunc 160 args).run Tryz.prog w=.ok (.enter 160 args) w:=enters_of Tryz.func160 (by kernel_rfl) rfl _ _
theorem QP{l:List V2}{d':Array V2}(hp:PermIn 0 l.toArray.size l.toArray d')(hs:SortedIn (ltOf RX) 0 l.toArray.size d'):d'=(cW ml l).toArray:=by
 obtain⟨h1,_,h3⟩:=hp;have e1:d'.extract 0 l.toArray.size=d':=by rw[←h1];simp
 have e2:l.toArray.extract 0 l.toArray.size=l.toArray:=by simp
 rw[e1,e2]at h3
 have:d'.toList=cW ml l:=by
  refine W9 (aa7.2 fun i j hi hj hij=>?_) (Bc l) ((show d'.toList.Perm l by simpa using h3).trans (zP ml l).symm)
  have hj':j<d'.size:=by simpa using hj
  have hi':i<d'.size:=by simpa using hi
  have h:=hs i j (UC _) hij (by rw[←h1];exact hj')
  rw[Pz,getElem!_pos d' i hi',getElem!_pos d' j hj']at h;simpa using h
 rw[←this]
set_option maxRecDepth 100000 in
theorem W8{args:List AV}{σ σ':ae}{v:AV}(h:zf 2 cM V7 P9 args σ=some (v,σ')):jR Tryz.prog cq a7 args σ v σ':=by
 refine .inr ⟨rfl,fun own ok w us hS hrel=>?_⟩
 unfold zf at h;split at h
 rotate_left
 ·cases h
 rename_i b n f;split at h
 rotate_left
 ·cases h
 rename_i hf;subst hf;split at h
 rotate_left
 ·cases h
 rename_i e rows ho;split at h
 rotate_left
 ·cases h
 rename_i hcond;obtain⟨hn,hbig,he,hok⟩:=hcond;simp only[bL,pY]at h;obtain⟨rfl,rfl⟩:=h;obtain⟨l,rfl⟩:=Qz hok;have hnl:l.length=n:=by simpa using hn
 match us,hrel.len with
 | [x,y],_=>
 have hx:=hrel.rel 0 _ x rfl rfl;have hy:=hrel.rel 1 _ y rfl rfl;obtain⟨lc,hl⟩:=hS.nA ho;have hvec:oT ⟨own,σ,ok,w⟩ lc e (ay (l.map au)):=hS.obj b lc _ hl ho
 have hyv:y=.func (.func cM) #[] #[]:=by
  cases hy with
  |p h=>
   cases h with
   |fn _ _ vs hl _=>
    have:vs=[]:=Jm.1 (by simpa using hl.symm)
    subst this;rfl
 subst hyv
 have hxv:∃ba,x=.slice ba n lc.cap∧(lc.cap≠0→ba=lc.addr):=by
  cases hx with
  |sl _ _ ba c' sh hs hnn hp=>
   have hs':sh=.vec e n:=by
    have:View.sh ⟨own,σ,ok,w⟩ b=some (.vec e n):=by simp[View.sh,ho,Obj.sh,hnl]
    rw[this]at hs;exact(abA hs).symm
   obtain⟨q1,rfl⟩:=hp e lc hs' hl;exact⟨ba,rfl,q1⟩
 obtain⟨ba,rfl,hba⟩:=hxv;show Go.AE.Enters Tryz.prog _ ((callFunc 159 _).run Tryz.prog w);rw[Og];have hunit:∀V:View,aV V (.p (.jO [])) (.tuple #[]):=fun V=>.p (.jO [] [] rfl (by simp))
 by_cases h0:n=0
 ·subst h0
  have hl0:l=[]:=Jm.1 hnl;subst hl0;refine callsIn_wide.2 (Calls.mono (AnyF.slices_SortFunc_none Jc ba lc.cap (.func (.func 160) #[] #[]) w) ?_)
  rintro e' w' ⟨rfl,rfl⟩
  refine⟨_,rfl,own,ok,?_,hunit _,?_⟩
  ·have:σ.set b (.pv e (cW P9 ([].map au)) false)=σ:=FR ho
   rw[this];exact hS
  ·have:σ.set b (.pv e (cW P9 ([].map au)) false)=σ:=FR ho
   rw[this];exact Step.refl _
 ·have hcap:n≤lc.cap:=by have:=hvec.cap;simpa[ay,hnl]using this
  have hcap0:lc.cap≠0:=by omega
  have he2:e=2:=by
   rcases he with h|h
   ·have:=congrArg List.length h;simp at this;subst this;exact absurd hnl.symm h0
   ·exact h
  subst he2
  obtain⟨r,hr⟩:∃r,lc.iL=some r:=by
   cases hb:lc.iL with
   |none=>exact absurd (hvec.nil hb) hcap0
   |some r=>exact⟨r,rfl⟩
  obtain⟨cc,ct,hh,hs,hcc⟩:=hvec.cells r hr;have haddr:lc.addr=some ⟨r,0,none⟩:=by simp[Loc.addr,hr]
  have:=hba hcap0;subst this;rw[haddr];have hrl:r<w.heap.size:=(Q6.1 hh).1;have hcell:=cell_holds hcc
  have hH:HoldsK eA 2 w r 0 l.toArray:=by
   intro j hj;have hj':j<l.length*2:=by simpa using hj
   refine⟨?_,?_⟩
   ·rw[sQ,ji hh,hcell j hj']
    rfl
   ·have hhh:w.heap[r]?=some (.cells cc ct (0,0)):=hh
    simp[World.frozen?,hhh]
  have hcon:=AnyQ.slices_SortFunc Jc 2 Tryz.isAgg103 Tryz.sizeOf103 eA (fun _=>rfl) (fun x v hv=>by simp[eA]at hv;rcases hv with rfl|rfl<;>rfl) RX aou 160 #[] r 0 lc.cap l.toArray w Y3 (Vu r 0 l.toArray.size w) hH hrl (by simpa[hnl]using hbig)
  have hsz:l.toArray.size=n:=by simpa using hnl
  rw[hsz]at hcon;refine callsIn_wide.2 (Calls.mono hcon ?_)
  rintro e' w' ⟨rfl,d',m,os,hp,hso,rfl⟩
  rw[←hsz]at hp hso;have hd':=QP hp hso;subst hd'
  have hil:(cW ml l).length=l.length:=by
   have:=hp.1;simpa using this
  have hpk:∀q,(sortWorldK eA 2 w r 0 m (cW ml l).toArray os).heap[q]?=if q<w.heap.size then(w.heap.modify r (onCells (putCells id 0 (flatK eA 2 (cW ml l).toArray))))[q]? else os[q-w.heap.size]? := by
   intro q;simp only[sortWorldK,putRowK,grow,putRow,mapBlock,Sort.ahead,Array.getElem?_append,Array.size_modify]
  have key:=hS.Mp (l':=lc) (o':=.pv 2 (cW P9 (l.map au)) false) (w':=sortWorldK eA 2 w r 0 m (cW ml l).toArray os) hl ho rfl
   (by
    simp only[Obj.sh,Sh.le,tp KZ,bz,hil];exact .inl ⟨trivial,.inr trivial,trivial⟩)
   rfl (by simp[sortWorldK,grow,putRowK,putRow,mapBlock,Sort.ahead]) (fun q hq hne=>by
    rw[hpk,if_pos hq,abp,if_neg (fun e=>hne (by rw[hr,e]))])
   (fun q _ hq=>.inl hq) (fun ee=>by
    have e9:ay (cW P9 (l.map au))=ay ((cW ml l).map au):=by rw[tp KZ]
    show oT _ lc 2 (ay (cW P9 (l.map au)));rw[e9];refine⟨?_,?_,hvec.nil,fun h=>by omega,fun q hq=>?_⟩
    ·intro y hy
     simp only[ay,abW,CV]at hy;obtain⟨v,_,rfl⟩:=hy;rfl
    ·simp only[ay,bz,hil,hnl];exact hcap
    ·rw[hr,bL]at hq
     subst hq;have hhh:w.heap[r]?=some (.cells cc ct (0,0)):=hh;refine⟨putCells id 0 (flatK eA 2 (cW ml l).toArray) cc,ct,?_,?_,fun k a ha=>?_⟩
     ·rw[hpk,if_pos hrl,abp,if_pos rfl,hhh]
      rfl
     ·simpa[putCells]using hs
     ·obtain⟨hk,rfl⟩:=Cz ha
      have hkc:k<cc.size:=by
       have:n*2≤lc.cap*2:=Jn _ hcap;rw[hil,hnl]at hk;omega
      refine⟨(flatK eA 2 (cW ml l).toArray)[k]!,?_,?_,?_⟩
      ·simp only[putCells,Array.getElem?_mapIdx,abm hkc,vd,UC,true_and,sQ,size_flatK,Nat.sub_zero,id]
       rw[if_pos (by simpa using hk)]
      ·rw[yS _ _ (by simpa using hk)]
       split<;>rfl
      ·rw[yS _ _ (by simpa using hk)]
       split
       ·exact .p (.str _)
       ·exact .p (.int _ _))
  exact⟨_,rfl,_,_,key.1,hunit _,key.2⟩
theorem M0(ba:Option Addr)(n c:Nat)(hn:n<2)(w:World):Calls Tryz.prog 164 #[.slice ba n c] w fun e w'=>e=.returned (.slice ba n c)∧w'=w:=by
 go_enter Tryz.func164,Tryz.ntmps164
 go_wp2
 go_ret
 exact⟨rfl,rfl⟩
theorem TV(d:Array V2):∀(k i:Nat),i+k=d.size→1≤i→((List.range' i k).filter (keeps d)).map (d[·]!)=xA d[i-1]! (d.toList.drop i)
 |0,i,h,_=>by
  rw[List.drop_eq_nil_of_le (by simp;omega)]
  rfl
 |k+1,i,h,h1=>by
  have hi:i<d.toList.length:=by simp;omega
  have ih:=TV d k (i+1) (by omega) (by omega)
  rw[ab5,abc hi];have e:d.toList[i]=d[i]! := by rw[getElem!_pos d i (by simpa using hi)];simp
  rw[e];simp only[Nat.add_sub_cancel]at ih;by_cases hk:d[i]! = d[i-1]!
  ·rw[ab3,keeps_neg (by omega) hk,if_neg (by simp),ih]
   have:d[i]!.name=d[i-1]!.name∧d[i]!.w=d[i-1]!.w:=⟨by rw[hk],by rw[hk]⟩
   rw[xA,if_pos this,hk]
  ·rw[ab3,keeps_pos hk,if_pos rfl,ue,ih]
   have:¬(d[i]!.name=d[i-1]!.name∧d[i]!.w=d[i-1]!.w):=fun x=>hk (Mq x.1 x.2)
   rw[xA,if_neg this]
theorem Ur(l:List V2):compactUpTo l.toArray l.toArray.size=pV l:=by
 cases l with
 |nil=>rfl
 |cons a r=>
  have h:=TV (a::r).toArray r.length 1 (by simp;omega) (qj _)
  have hs:(a::r).toArray.size=r.length+1:=by simp
  unfold compactUpTo;rw[hs,List.range_eq_range',ab5,ab3,keeps_lt_one _ 0 (by omega),if_pos rfl,ue]
  rw[h];rfl
theorem Y4(args:Array Value)(w:World):(callFunc 164 args).run Tryz.prog w=.ok (.enter 164 args) w:=enters_of Tryz.func164 (by kernel_rfl) rfl _ _
theorem afn(l:List V2):∀p,(xA p l).length≤l.length:=by
 induction l with
 |nil=>intro p;simp[xA]
 |cons a r ih=>intro p;unfold xA;split;exact Nat.le_succ_of_le (ih p);simp[ih a]
theorem YP(l:List V2):(pV l).length≤l.length:=by cases l with|nil=>simp[pV]|cons a r=>simp[pV,afn]
set_option maxRecDepth 100000 in
theorem PD{args:List AV}{σ σ':ae}{v:AV}(h:uX 2 V7 args σ=some (v,σ')):jR Tryz.prog cq cy args σ v σ':=by
 refine .inr ⟨rfl,fun own ok w us hS hrel=>?_⟩
 unfold uX at h;split at h
 rotate_left
 ·cases h
 rename_i b n;split at h
 rotate_left
 ·cases h
 rename_i e rows ho;split at h
 rotate_left
 ·cases h
 rename_i hcond;obtain⟨hn,hbig,he,hok⟩:=hcond;simp only[bL,pY]at h;obtain⟨rfl,rfl⟩:=h;obtain⟨l,rfl⟩:=Qz hok;have hnl:l.length=n:=by simpa using hn
 match us,hrel.len with
 | [x],_=>
 have hx:=hrel.rel 0 _ x rfl rfl;obtain⟨lc,hl⟩:=hS.nA ho;have hvec:oT ⟨own,σ,ok,w⟩ lc e (ay (l.map au)):=hS.obj b lc _ hl ho;have hbo:b<own.length:=(gu.1 hl).1;have hbσ:b<σ.length:=(gu.1 ho).1;have hlenσ:σ.length=own.length:=hS.len.symm
 have hxv:∃ba,x=.slice ba n lc.cap∧(lc.cap≠0→ba=lc.addr):=by
  cases hx with
  |sl _ _ ba c' sh hs hnn hp=>
   have hs':sh=.vec e n:=by
    have:View.sh ⟨own,σ,ok,w⟩ b=some (.vec e n):=by simp[View.sh,ho,AE.Obj.sh,hnl]
    rw[this]at hs;exact(abA hs).symm
   obtain⟨q1,rfl⟩:=hp e lc hs' hl;exact⟨ba,rfl,q1⟩
 obtain⟨ba,rfl,hba⟩:=hxv;rw[Em];show Go.AE.Enters Tryz.prog _ ((callFunc 164 _).run Tryz.prog w);rw[Y4];by_cases h2:n<2
 ·have hcv:pV l=l:=by
   match l,hnl with
   | [],_=>rfl
   | [a],_=>rfl
   |a::c::r,hh=>simp at hh;omega
  rw[hcv,bz,hnl];refine callsIn_wide.2 (Calls.mono (M0 ba n lc.cap h2 w) ?_)
  rintro e' w' ⟨rfl,rfl⟩
  have key:=hS.WN hl ho rfl rfl lc (.pv e (l.map au) false) rfl (fun ee=>hvec.mono ee (fun _ _=>rfl))
  refine⟨_,rfl,_,_,key.1,?_,key.2⟩;refine .sl _ _ _ _ (.vec e n) ?_ ?_ ?_
  ·simp[View.sh,AE.Obj.sh,hnl]
  ·intro es m hm;cases hm;exact qj _
  ·intro es l1 hm h1
   rw[hlenσ]at h1;have:l1=lc:=by simpa using h1.symm
   subst this;exact⟨hba,rfl⟩
 ·have hcap:n≤lc.cap:=by have:=hvec.cap;simpa[ay,hnl]using this
  have hcap0:lc.cap≠0:=by omega
  have he2:e=2:=by
   rcases he with h|h
   ·have:=congrArg List.length h;simp at this;subst this;exact absurd hnl.symm (by simp;omega)
   ·exact h
  subst he2
  obtain⟨r,hr⟩:∃r,lc.iL=some r:=by
   cases hb:lc.iL with
   |none=>exact absurd (hvec.nil hb) hcap0
   |some r=>exact⟨r,rfl⟩
  obtain⟨cc,ct,hh,hs,hcc⟩:=hvec.cells r hr;have haddr:lc.addr=some ⟨r,0,none⟩:=by simp[Loc.addr,hr]
  have:=hba hcap0;subst this;rw[haddr];have hrl:r<w.heap.size:=(Q6.1 hh).1;have hcell:=cell_holds hcc
  have hH:HoldsK eA 2 w r 0 l.toArray:=by
   intro j hj;have hj':j<l.length*2:=by simpa using hj
   refine⟨?_,?_⟩
   ·rw[sQ,ji hh,hcell j hj']
    rfl
   ·have hhh:w.heap[r]?=some (.cells cc ct (0,0)):=hh
    simp[World.frozen?,hhh]
  have hsz:l.toArray.size=n:=by simpa using hnl
  have hcon:=R8 r lc.cap l.toArray w hH (by rw[hsz];exact hbig) (by rw[hsz];exact hcap)
  rw[Ur,hsz]at hcon;refine callsIn_wide.2 (Calls.mono hcon ?_)
  rintro e' w' ⟨rfl,q,F,hF,hF1,hF2,rfl⟩
  rw[hsz]at hF;rw[Ur]at hF2
  have hpk:∀q':Nat,(putRow id (Sort.ahead w q) r 0 F).heap[q']?=(w.heap.modify r (onCells (putCells id 0 F)))[q']? := by
   intro q';simp only[putRow,mapBlock,Sort.ahead]
  have hhr:(putRow id (Sort.ahead w q) r 0 F).heap[r]?=some (.cells (putCells id 0 F cc) ct (0,0)):=by
   have hhh:w.heap[r]?=some (.cells cc ct (0,0)):=hh;rw[hpk,abp,if_pos rfl,hhh];rfl
  have hpc:∀k,k<n*2→(putCells id 0 F cc)[k]?=some F[k]! := by
   intro k hk
   have hkc:k<cc.size:=by
    have:n*2≤lc.cap*2:=Jn _ hcap;omega
   simp only[putCells,Array.getElem?_mapIdx,abm hkc,vd,UC,true_and,sQ,Nat.sub_zero,id];rw[if_pos (by omega)]
  have key:=hS.Mp (l':=lc) (o':=.av 2 (List.replicate n [.any,.any]) false) (w':=putRow id (Sort.ahead w q) r 0 F) hl ho rfl
   (by
    simp only[AE.Obj.sh,Sh.le,bz,aca,hnl];exact .inl ⟨trivial,.inr trivial,trivial⟩)
   rfl (by simp[putRow,mapBlock,Sort.ahead]) (fun q' hq hne=>by
    rw[hpk,abp,if_neg (fun e=>hne (by rw[hr,e]))])
   (fun q' _ hq=>.inl hq) (fun ee=>by
    refine⟨?_,?_,hvec.nil,fun h=>by omega,fun q' hq=>?_⟩
    ·intro y hy
     rw[List.eq_of_mem_replicate hy];rfl
    ·simpa using hcap
    ·rw[hr,bL]at hq
     subst hq;refine⟨_,ct,hhr,by simpa[putCells]using hs,fun k a ha=>?_⟩
     have hk:k<n*2:=by
      have:=(gu.1 ha).1;rw[bU (es:=2) (fun x hx=>by rw[List.eq_of_mem_replicate hx];rfl),aca]at this
      exact this
     have ha':a=.any:=by
      have hm:=mK ha;simp only[List.mem_flatten]at hm;obtain⟨row,h1,h2⟩:=hm;rw[List.eq_of_mem_replicate h1]at h2;simpa using h2
     subst ha';exact⟨_,hpc k hk,hF1 k (by omega),.any _⟩)
  have ho2:(σ.set b (.av 2 (List.replicate n [.any,.any]) false))[b]?=some (.av 2 (List.replicate n [.any,.any]) false):=Xp hbσ;have hl2:(own.set b lc)[b]?=some lc:=Xp hbo
  have key2:=key.1.WN hl2 ho2 rfl rfl lc (.pv 2 ((pV l).map au) false) rfl (fun ee=>by
   have hcl:=YP l;refine⟨?_,?_,hvec.nil,fun h=>by omega,fun q' hq=>?_⟩
   ·intro y hy
    simp only[ay,abW,CV]at hy;obtain⟨v,_,rfl⟩:=hy;rfl
   ·simp only[ay,bz];omega
   ·rw[hr,bL]at hq
    subst hq;refine⟨_,ct,hhr,by simpa[putCells]using hs,fun k a ha=>?_⟩
    obtain⟨hk,rfl⟩:=Cz ha;have hk2:k / 2<(pV l).length:=by omega
    have hx:(pV l)[k / 2]?=some ((pV l).toArray[k / 2]!):=by
     rw[getElem!_pos _ _ (by simpa using hk2),oh hk2]
     simp
    have hf:=hF2 (k / 2) _ hx (k % 2) (by omega)
    have hkk:k / 2*2+k % 2=k:=by omega
    rw[hkk]at hf;refine⟨F[k]!,hpc k (by omega),hF1 k (by omega),?_⟩
    rw[hf];have h3:k % 2=0∨k % 2=1:=by omega
    rcases h3 with h3|h3<;>rw[h3]
    ·exact .p (.str _)
    ·exact .p (.int _ _))
  rw[List.set_set]at key2;refine⟨_,rfl,_,_,key2.1,?_,key.2.trans key2.2⟩;rw[bz];refine .sl _ _ _ _ (.vec 2 (pV l).length) ?_ ?_ ?_
  ·simp[View.sh,AE.Obj.sh]
  ·intro es m hm;cases hm;exact qj _
  ·intro es l1 hm h1
   have:l1=lc:=by
    rw[hlenσ]at h1;simpa using h1.symm
   subst this;exact⟨fun _=>haddr.symm,rfl⟩
def Vr:Go.Shelf.Ren:=⟨fun|41=>125|n=>n,fun|22=>25|23=>27|4=>4|n=>n,fun|n=>n⟩
theorem ada:Go.Proofs.SlLaysE0.n41 Tryz.prog Vr:={
 mixed:=by kernel_rfl,
 f41:=⟨Tryz.f125.name,by decide,Tryz.func125.trans (congrArg some (by kernel_rfl))⟩,
 t4:=Tryz.underlying4,
 a4:=Tryz.isAgg4,
 z4:=Tryz.sizeOf4,
 v4:=Tryz.zeroValue4,
 t22:=Tryz.underlying25,
 a22:=Tryz.isAgg25,
 z22:=Tryz.sizeOf25,
 v22:=Tryz.zeroValue25}
theorem Y2(args:Array Value)(w:World):(callFunc 125 args).run Tryz.prog w=.ok (.enter 125 args) w:=enters_of Tryz.func125 (by kernel_rfl) rfl _ _
theorem Zm:(Tryz.prog.info? 27).isSome=true:=by kernel_rfl
noncomputable def anc:TypeInfo:=(Tryz.prog.info? 27).get Zm
theorem Vt(a:Addr)(c:Nat)(w:World):Calls Tryz.prog 125 #[.slice (some a) 0 c] w fun e w'=>(∃a',e=.returned (.slice a' 0 0))∧w'=w.alloc (Go.Obj.cells #[] 27):=by
 have q22:∀(w:World) (a:Option Addr) (n c n' c':Nat),(binOp .eql 25 (.slice a n c) (.slice none n' c')).run Tryz.prog w=.ok (.bool a.isNone) w:=fun w a n c n' c'=>Lib.run_eql_slice_nil w _ _ a n c n' c' Tryz.underlying25
 go_enter Tryz.func125,Tryz.ntmps125
 go_wp2
 go_ret
 exact⟨⟨_,rfl⟩,rfl⟩
theorem YK(n c:Nat)(w:World):Calls Tryz.prog 125 #[.slice none n c] w fun e w'=>e=.returned (.slice none 0 0)∧w'=w:=AnyE.slices_Clone_nil ada n c w
set_option maxRecDepth 100000 in
theorem Vs{args:List AV}{σ σ':ae}{v:AV}(h:wk args σ=some (v,σ')):jR Tryz.prog cq di args σ v σ':=by
 refine .inr ⟨rfl,fun own ok w us hS hrel=>?_⟩
 unfold wk at h;split at h
 rotate_left
 ·cases h
 rename_i rows;split at h
 rotate_left
 ·cases h
 rename_i hcond;obtain⟨hbig,hw⟩:=hcond;simp only[bL,pY]at h;obtain⟨rfl,rfl⟩:=h
 match us,hrel.len with
 | [x],_=>
 have hx:=(hrel.rel 0 _ x rfl rfl).xV;have hlenσ:own.length=σ.length:=hS.len;show Go.AE.Enters Tryz.prog _ ((callFunc 125 _).run Tryz.prog w);rw[Y2]
 have hnilv:∀(a:Option Addr) (w':World),aV ⟨own++[⟨none,0⟩],σ++[.pv 5 [] false],ok,w'⟩ (.sl σ.length 0) (.slice a 0 0):=fun a w'=>by
  refine .sl _ _ _ _ (.vec 5 0) ?_ ?_ ?_
  ·simp[View.sh,AE.Obj.sh]
  ·intro es m hm;cases hm;exact qj _
  ·intro es l1 hm h1
   have:l1=⟨none,0⟩:=by rw[←hlenσ]at h1;simpa using h1.symm
   subst this;exact⟨fun h=>absurd rfl h,rfl⟩
 have hnilo:∀(V:View),oT V ⟨none,0⟩ 5 (ay []):=fun V=>⟨by simp[ay],by simp[ay],fun _=>rfl,fun h=>by omega,fun r h=>by cases h⟩
 generalize hq:PV.aW rows=q at hx;cases hx with
 |int|bool|str|vu|w9|E4|agg|jO|ptr|fn|pmap=>cases hq
 |GJ a c=>
  cases hq;cases a with
  |none=>
   refine callsIn_wide.2 (Calls.mono (YK 0 c w) ?_)
   rintro e' w' ⟨rfl,rfl⟩
   have key:=hS.push ⟨none,0⟩ (.pv 5 [] false) w' rfl (qj _) (fun _ _=>rfl) (fun r h=>by cases h) (fun _=>hnilo _)
   exact⟨_,rfl,_,_,key.1,hnilv _ _,key.2⟩
  |some a=>
   refine callsIn_wide.2 (Calls.mono (Vt a c w) ?_)
   rintro e' w' ⟨⟨a',rfl⟩,rfl⟩
   have key:=hS.push ⟨none,0⟩ (.pv 5 [] false) (w.alloc (Go.Obj.cells #[] 27)) rfl (by rw[World.size_alloc];exact Nat.le_succ _) (fun b hb=>by
    have hb':b<w.heap.size:=hb;rw[show(w.alloc (Go.Obj.cells #[] 27)).heap=w.heap.push (Go.Obj.cells #[] 27)from rfl,Array.getElem?_push,if_neg (Nat.ne_of_lt hb')]) (fun r h=>by cases h) (fun _=>hnilo _)
   exact⟨_,rfl,_,_,key.1,hnilv _ _,key.2⟩
 |aW rows' r off c es cv hr hokr hc hes hcell hone hp=>
  cases hq
  have hes5:es=5:=by
   obtain⟨row,hrow⟩:=abH rows hr;rw[←hes row hrow];simpa using AS.1 hw row hrow
  subst hes5;have hn:rows.length≤maxLen:=by unfold maxLen;omega
  have hnl:((List.range (rows.length*5)).map cv).length=rows.length*5:=by simp
  have hcon:=AnyE.slices_Clone ada anc (.agg #[.int .i64 0,.int .i64 0,.int .u64 0,.string ⟨#[]⟩,.slice none 0 0]) 5 64 (Option.some_get _).symm (by kernel_rfl) (by kernel_rfl) (by kernel_rfl) rfl (by decide) Tryz.sizeOf27 r off rows.length c ((List.range (rows.length*5)).map cv) w hnl hn hbig
   (fun j u hj=>by
    rw[xF]at hj
    have hj2:j<rows.length*5:=by
     rcases UB j (rows.length*5)with h|h
     ·exact h
     ·rw[aa3 (by simpa using h)]at hj;cases hj
    rw[abr hj2]at hj;cases hj;exact hcell j hj2)
   (fun u hu=>by
    obtain⟨j,hj,rfl⟩:=CV.1 hu;exact hone j (abw.1 hj))
  refine callsIn_wide.2 (Calls.mono hcon ?_)
  rintro e' w' ⟨v',rfl,⟨_,hown⟩,_,hbel⟩
  have hrl:0<rows.length:=ab1.2 hr;rcases hown with⟨_,h0⟩|⟨g,cap,cur,rfl,hg,hh,hcap,_,hcs,htk⟩
  ·omega
  have hgl:g<w'.heap.size:=(Q6.1 hh).1
  have hcur:∀k,k<rows.length*5→cur[k]?=some (cv k):=fun k hk=>by
   have h1:(cur.toList.take (rows.length*5))[k]?=some (cv k):=by rw[htk,xF,abr hk];rfl
   rw[UL hk]at h1;simpa using h1
  have henv:env w'=env w:=by
   show(w'.os,w'.output,w'.tape)=(w.os,w.output,w.tape)
   rw[hbel.os,hbel.tape,hbel.output]
  have key:=hS.push ⟨some g,cap⟩ (.pv 5 rows false) w' henv hbel.size (fun b hb=>hbel.block b hb) (fun r h=>by cases h;exact⟨hg,hgl⟩) (fun ee=>by
   refine⟨?_,?_,fun h=>(by cases h),fun h=>(by omega),fun q' hq=>?_⟩
   ·intro y hy
    simp only[ay,CV]at hy;obtain⟨row,h1,rfl⟩:=hy;rw[bz];exact hes row h1
   ·simpa[ay]using hcap
   ·cases hq
    refine⟨cur,_,hh,(by show cap*5≤cur.size;simp only[hcs,qj]),fun k a ha=>?_⟩
    have hfl:(ay rows).flatten=rows.flatten.map .p:=by simp[ay,List.map_flatten]
    rw[hfl,xF,gE]at ha;obtain⟨pp,hpp,rfl⟩:=ha
    have hk:k<rows.length*5:=by
     have:=(gu.1 hpp).1;rw[bU (es:=5) hes]at this;exact this
    exact⟨cv k,hcur k hk,hone k hk,.p ((hp k pp hpp).mono (fun _ h=>ee.ok _ h) ee.keep)⟩)
  refine⟨_,rfl,_,_,key.1,?_,key.2⟩;refine .sl _ _ _ _ (.vec 5 rows.length) ?_ ?_ ?_
  ·simp[View.sh,AE.Obj.sh]
  ·intro es m hm;cases hm;exact qj _
  ·intro es l1 hm h1
   have:l1=⟨some g,cap⟩:=by rw[←hlenσ]at h1;simpa using h1.symm
   subst this;exact⟨fun _=>rfl,rfl⟩
end Go.Proofs.YtpccheodgonkkaaGreat
