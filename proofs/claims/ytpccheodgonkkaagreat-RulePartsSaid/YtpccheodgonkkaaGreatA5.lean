import Derived.Test.YtpccheodgonkkaaGreatA4
import Derived.Carry
set_option linter.unusedSimpArgs false
set_option linter.unusedVariables false
namespace Go.AE
def DB(P:Program):List Field→Nat→Option Nat
 | [],off=>some off
 |f::r,off=>if f.offset=off then DB P r (off+P.cellsOf f.type)else none
def GV(P:Program)(L:List TypeId):Bool :=
 L.all fun t=>match P.underlying t with
  |some .bool|some (.int _)|some .string=>true
  |some (.pointer e)|some (.slice e)=>L.contains e && decide (0<P.cellsOf e)
  |some (.struct fs)=>(DB P fs.toList 0 == some (P.cellsOf t)) && fs.toList.all fun f=>L.contains f.type
  |some (.array n e)=>L.contains e && (P.cellsOf t == n*P.cellsOf e)
  |_=>false
inductive Ty (P:Program):TypeId→List PV→Prop
 |bool (t:TypeId) (b:Bool) (h:P.underlying t=some .bool):Ty P t [.bool b]
 |int (t:TypeId) (k:IntKind) (n:Int) (h:P.underlying t=some (.int k)) (h1:k.min≤n) (h2:n≤k.max):Ty P t [.int k n]
 |str (t:TypeId) (s:ByteArray) (h:P.underlying t=some .string) (hs:s.size≤maxLen):Ty P t [.str s]
 |vu (t e:TypeId) (h:P.underlying t=some (.pointer e)):Ty P t [.vu]
 |ptr (t e:TypeId) (row:List PV) (h:P.underlying t=some (.pointer e)) (hr:Ty P e row):Ty P t [.ptr row 0]
 |aW (t e:TypeId) (rows:List (List PV)) (h:P.underlying t=some (.slice e)) (hl:rows.length≤maxLen) (hr:∀r∈rows,Ty P e r):Ty P t [.aW rows]
 |struct (t:TypeId) (fs:Array Field) (parts:List (List PV)) (h:P.underlying t=some (.struct fs)) (hl:parts.length=fs.size) (hp:∀(i:Nat) (f:Field) (c:List PV),fs[i]?=some f→parts[i]?=some c→Ty P f.type c):Ty P t parts.flatten
 |array (t e:TypeId) (n:Nat) (parts:List (List PV)) (h:P.underlying t=some (.array n e)) (hl:parts.length=n) (hp:∀c∈parts,Ty P e c):Ty P t parts.flatten
theorem Ic{P:Program}{R:PV→Value→Prop}(cs:List Value):∀(fs:List Field) (off n:Nat),DB P fs off=some n→∀(parts:List (List PV)),parts.length=fs.length →
  (∀(i:Nat) (f:Field) (c:List PV),fs[i]?=some f→parts[i]?=some c→c.length=P.cellsOf f.type∧∀(j:Nat) (q:PV) (v:Value),c[j]?=some q→((cs.drop f.offset).take (P.cellsOf f.type))[j]?=some v→R q v) →
  off+parts.flatten.length=n∧∀(j:Nat) (q:PV) (v:Value),parts.flatten[j]?=some q→cs[off+j]?=some v→R q v
 | [],off,n,h,parts,hl,_=>by
  have:parts=[]:=Jm.1 (by simpa using hl)
  subst this;simp only[DB,bL]at h;exact⟨by simpa using h,by simp⟩
 |f::r,off,n,h,c::parts,hl,hp=>by
  simp only[DB]at h;split at h
  ·rename_i hoff
   obtain⟨h1,h2⟩:=hp 0 f c rfl rfl;obtain⟨h3,h4⟩:=Ic cs r _ n h parts (by simpa using hl) (fun i f c hf hc=>hp (i+1) f c (by simpa using hf) (by simpa using hc))
   refine⟨by rw[abi,mh,h1];omega,fun j q v hq hv=>?_⟩
   rw[abi]at hq;by_cases hj:j<c.length
   ·rw[ym hj]at hq
    refine h2 j q v hq ?_;rw[Uy,if_pos (by omega),abb,hoff]
    exact hv
   ·rw[CG (by omega)]at hq
    refine h4 (j-c.length) q v hq ?_;rw[show off+P.cellsOf f.type+(j-c.length)=off+j by omega]
    exact hv
  ·cases h
 |_::_,_,_,_,[],hl,_=>by simp at hl
theorem Ui{P:Program}:∀(fs:List Field) (off n:Nat),DB P fs off=some n→off≤n∧∀f∈fs,f.offset+P.cellsOf f.type≤n
 | [],off,n,h=>by
  simp only[DB,bL]at h;exact⟨by omega,by simp⟩
 |f::r,off,n,h=>by
  simp only[DB]at h;split at h
  ·rename_i hoff
   obtain⟨h1,h2⟩:=Ui r _ n h;refine⟨by omega,fun g hg=>?_⟩
   rcases qL.1 hg with rfl|hg
   ·omega
   ·exact h2 g hg
  ·cases h
def Yc(P:Program)(L:List TypeId)(t:TypeId):Bool :=
 match P.underlying t with
 |some .bool|some (.int _)|some .string=>true
 |some (.pointer e)|some (.slice e)=>L.contains e && decide (0<P.cellsOf e)
 |some (.struct fs)=>(DB P fs.toList 0 == some (P.cellsOf t)) && fs.toList.all fun f=>L.contains f.type
 |some (.array n e)=>L.contains e && (P.cellsOf t == n*P.cellsOf e)
 |_=>false
theorem WM{P:Program}{L:List TypeId}(h:GV P L=true){t:TypeId}(ht:t∈L):Yc P L t=true:=by
 unfold GV at h;rw[AS]at h;exact h t ht
theorem Z7{w:World}{a:Addr}{v:Value}(h:w.cell? a=some v):a.spot=none∧a.block<w.heap.size:=by
 unfold World.cell? at h;split at h
 ·rename_i hb
  split at h
  ·cases h
  ·rename_i hs
   exact⟨by simpa using hs,(Q6.1 hb).1⟩
 ·cases h
theorem Rc{a:Addr}(h:a.spot=none)(i:Nat):a.add i=⟨a.block,a.off+i,none⟩:=by
 obtain⟨b,o,s⟩:=a
 simp only at h
 subst h;exact eG b o i
structure Cells (w:World) (cells:List PV) (cs:List Value):Prop where
 len:cells.length=cs.length
 rel:∀(i:Nat) (c:PV) (v:Value),cells[i]?=some c→cs[i]?=some v→dw w (fun b=>b<w.heap.size) c v
 one:∀v∈cs,v.oneCell'=true
theorem Cells.single{w:World}{c:PV}{v:Value}(h:dw w (fun b=>b<w.heap.size) c v)(h1:v.oneCell'=true):Cells w [c] [v]:=by
 refine⟨rfl,fun i x u hx hu=>?_,by simpa using h1⟩
 cases i with
 |zero=>simp at hx hu;subst hx;subst hu;exact h
 |succ i=>simp at hx
section
variable {H:Type} {enc:TypeId×Value→H} {P:Program} {w:World} {L:List TypeId} {base:Nat} {spare:Nat→Bool} {held:Bool}
theorem ah2(hL:GV P L=true):∀(fuel:Nat) (t:TypeId) (cs:List Value) (d:DataW H) (ps:List MemPlace),t∈L→DataW.trod enc P w base spare held fuel t cs=some (d,ps)→∃cells,Ty P t cells∧Cells w cells cs:=by
 intro fuel
 induction fuel with
 |zero=>intro t cs d ps _ h;simp[DataW.trod]at h
 |succ fuel ih=>
  intro t cs d ps ht h;have h1:=WM hL ht;unfold Yc at h1;unfold DataW.trod at h
  have place:∀(e:TypeId) (a:Addr) (x:DataW H×List MemPlace),e∈L→0<P.cellsOf e→((w.cells? base a (P.cellsOf e)).bind (DataW.trod enc P w base spare held fuel e))=some x→∃row,Ty P e row∧row.length=P.cellsOf e∧a.spot=none∧a.block<w.heap.size ∧
    ∃cv:Nat→Value,(∀k,k<P.cellsOf e→w.cell? ⟨a.block,a.off+k,none⟩=some (cv k))∧(∀k,k<P.cellsOf e→(cv k).oneCell'=true)∧∀(k:Nat) (q:PV),row[k]?=some q→dw w (fun b=>b<w.heap.size) q (cv k):=by
   intro e a x he hpos hx;simp only[fM]at hx;obtain⟨es,hes,hx⟩:=hx;obtain⟨row,hty,hc⟩:=ih e es x.1 x.2 he hx;obtain⟨_,hlen,hcell⟩:=World.cells?_some hes;have h0:=hcell 0 hpos;rw[oh (by omega)]at h0
   have hsp:=Z7 h0
   have hsp':a.spot=none∧a.block<w.heap.size:=by
    obtain⟨b,o,s⟩:=a;unfold Addr.add at hsp;split at hsp<;>simp_all
   have hgd:∀(k:Nat) (hk:k<es.length),es.getD k undef=es[k]:=fun k hk=>by simp[hk]
   refine⟨row,hty,by rw[hc.len,hlen],hsp'.1,hsp'.2,fun k=>es.getD k undef,fun k hk=>?_,fun k hk=>?_,fun k q hq=>?_⟩
   ·have:=hcell k hk
    rw[Rc hsp'.1]at this;have hk':k<es.length:=by omega
    rw[this];show es[k]?=some (es.getD k undef);rw[hgd k hk',oh hk']
   ·have hk':k<es.length:=by omega
    show(es.getD k undef).oneCell'=true
    rw[hgd k hk'];exact hc.one _ (UJ _)
   ·have hk:k<es.length:=by have:=(gu.1 hq).1;have:=hc.len;omega
    show dw w _ q (es.getD k undef);rw[hgd k hk];exact hc.rel k q _ hq (oh hk)
  split at h
  ·rename_i b hu
   exact⟨_,.bool t b hu,.single (.bool b) rfl⟩
  ·rename_i k k' n hu
   split at h
   ·rename_i hk
    obtain⟨rfl,hw⟩:=hk;simp only[Lit.wf,yE,decide_eq_true_eq]at hw;exact⟨_,.int t _ n hu hw.1 hw.2,.single (.int _ n) rfl⟩
   ·cases h
  ·rename_i hu;simp[hu]at h1
  ·rename_i s hu
   split at h
   ·rename_i hs
    exact⟨_,.str t s hu hs,.single (.str s) rfl⟩
   ·cases h
  ·rename_i e hu
   exact⟨_,.vu t e hu,.single .vu rfl⟩
  ·rename_i e a hu
   rw[hu]at h1;simp only[yE,decide_eq_true_eq]at h1;simp only[gE]at h;obtain⟨x,hx,_⟩:=h;obtain⟨row,g1,g2,g3,g4,cv,g5,g6,g7⟩:=place e a x (by simpa using h1.1) h1.2 hx
   refine⟨_,.ptr t e row hu g1,.single ?_ rfl⟩;have:=dw.ptr (w:=w) (ok:=fun b=>b<w.heap.size) row 0 a.block a.off cv g4 (by rw[g2];exact g5) (by rw[g2];exact g6) g7
   obtain⟨b,o,s⟩:=a
   simp only at g3
   subst g3;exact this
  ·rename_i e hu
   exact⟨_,.aW t e [] hu (UC _) (by simp),.single (.GJ none 0) rfl⟩
  ·rename_i e a len cap hu
   rw[hu]at h1;simp only[yE,decide_eq_true_eq]at h1;split at h
   ·rename_i hcond
    simp only[fM]at h;obtain⟨elems,hel,_⟩:=h;have hlen:elems.length=len:=by have:=mapM_some_length hel;simpa using this
    have elem:∀i,i<len→∃x,((w.cells? base (a.add (i*P.cellsOf e)) (P.cellsOf e)).bind (DataW.trod enc P w base spare held fuel e))=some x:=by
     intro i hi;have:=mapM_some_get hel i i (by simp[hi])
     rw[oh (by omega)]at this
     exact⟨_,this⟩
    by_cases h0:len=0
    ·subst h0
     exact⟨_,.aW t e [] hu (UC _) (by simp),.single (.GJ (some a) cap) rfl⟩
    ·obtain⟨x0,hx0⟩:=elem 0 (by omega)
     obtain⟨_,_,_,asp,abl,_⟩:=place e _ x0 (by simpa using h1.1) h1.2 hx0
     have ha0:a.add (0*P.cellsOf e)=a:=by simp[Addr.add]
     rw[ha0]at asp abl
     have each:∀i,i<len→∃row,Ty P e row∧row.length=P.cellsOf e∧∃cv:Nat→Value,(∀k,k<P.cellsOf e→w.cell? ⟨a.block,a.off+i*P.cellsOf e+k,none⟩=some (cv k))∧(∀k,k<P.cellsOf e→(cv k).oneCell'=true)∧∀(k:Nat) (q:PV),row[k]?=some q→dw w (fun b=>b<w.heap.size) q (cv k):=by
      intro i hi;obtain⟨x,hx⟩:=elem i hi;obtain⟨row,g1,g2,_,_,cv,g5,g6,g7⟩:=place e _ x (by simpa using h1.1) h1.2 hx
      rw[Rc asp]at g5;exact⟨row,g1,g2,cv,g5,g6,g7⟩
     have hrow:∀i:Fin len,∃row,Ty P e row∧row.length=P.cellsOf e∧∃cv:Nat→Value,(∀k,k<P.cellsOf e→w.cell? ⟨a.block,a.off+i.1*P.cellsOf e+k,none⟩=some (cv k))∧(∀k,k<P.cellsOf e→(cv k).oneCell'=true)∧∀(k:Nat) (q:PV),row[k]?=some q→dw w (fun b=>b<w.heap.size) q (cv k):=fun i=>each i.1 i.2
     let rowOf:Fin len→List PV:=fun i=>(hrow i).choose
     have hro:∀i,Ty P e (rowOf i)∧(rowOf i).length=P.cellsOf e∧∃cv:Nat→Value,(∀k,k<P.cellsOf e→w.cell? ⟨a.block,a.off+i.1*P.cellsOf e+k,none⟩=some (cv k))∧(∀k,k<P.cellsOf e→(cv k).oneCell'=true)∧∀(k:Nat) (q:PV),(rowOf i)[k]?=some q→dw w (fun b=>b<w.heap.size) q (cv k):=fun i=>(hrow i).choose_spec
     have hl:(List.ofFn rowOf).length=len:=by simp
     have hwide:∀x∈List.ofFn rowOf,x.length=P.cellsOf e:=by
      intro x hx;rw[List.mem_ofFn]at hx;obtain⟨i,rfl⟩:=hx;exact(hro i).2.1
     have hcell:∀k,k<(List.ofFn rowOf).length*P.cellsOf e→∃v,w.cell? ⟨a.block,a.off+k,none⟩=some v∧v.oneCell'=true∧∀q,(List.ofFn rowOf).flatten[k]?=some q→dw w (fun b=>b<w.heap.size) q v:=by
      intro k hk;rw[←bU hwide]at hk;obtain⟨i,j,row,rfl,hi,hj⟩:=pj hwide (oh hk);have hil:i<len:=by have:=(gu.1 hi).1;omega
      have hrw:row=rowOf ⟨i,hil⟩:=by
       rw[List.getElem?_ofFn]at hi;simp[hil]at hi;exact hi.symm
      subst hrw;obtain⟨_,r2,cv,r3,r4,r5⟩:=hro ⟨i,hil⟩;have hje:j<P.cellsOf e:=by have:=(gu.1 hj).1;omega
      refine⟨cv j,by have:=r3 j hje;rw[acn]at this;exact this,r4 j hje,fun q hq=>?_⟩
      have hq':=gL hwide hi hj;rw[hq]at hq';have hqe:q=_:=abA hq';rw[hqe];exact r5 j _ hj
     refine⟨_,.aW t e (List.ofFn rowOf) hu (by rw[hl];omega) (fun r hr=>?_),.single ?_ rfl⟩
     ·rw[List.mem_ofFn]at hr
      obtain⟨i,rfl⟩:=hr;exact(hro i).1
     ·have key:=dw.aW (w:=w) (ok:=fun b=>b<w.heap.size) (List.ofFn rowOf) a.block a.off cap (P.cellsOf e) (fun k=>(w.cell? ⟨a.block,a.off+k,none⟩).getD undef) (by intro hx;have:=congrArg List.length hx;rw[hl]at this;exact h0 this) abl (by rw[hl];exact hcond.2.1) hwide
       (fun k hk=>by obtain⟨v,v1,_⟩:=hcell k hk;rw[v1];rfl) (fun k hk=>by obtain⟨v,v1,v2,_⟩:=hcell k hk;rw[v1];exact v2) (fun k q hq=>by
        have hk:k<(List.ofFn rowOf).length*P.cellsOf e:=by have:=(gu.1 hq).1;rw[bU hwide]at this;exact this
        obtain⟨v,v1,_,v3⟩:=hcell k hk;rw[v1];exact v3 q hq)
      rw[hl]at key;obtain⟨b,o,s⟩:=a
      simp only at asp
      subst asp;exact key
   ·cases h
  ·rename_i cs' _ _ fs hu
   rw[hu]at h1;simp only[yE,beq_iff_eq,AS]at h1;split at h
   ·rename_i hlen
    simp only[gE]at h;obtain⟨xs,hxs,_⟩:=h;have hxl:=mapM_some_length hxs
    have each:∀i:Fin fs.toList.length,∃c,Ty P (fs.toList[i]).type c∧Cells w c ((cs'.drop (fs.toList[i]).offset).take (P.cellsOf (fs.toList[i]).type)):=fun i=>by
     have:=mapM_some_get hxs i.1 _ (oh i.2);rw[oh (by omega)]at this
     exact ih _ _ _ _ (by simpa using h1.2 _ (UJ i.2)) this
    let part:Fin fs.toList.length→List PV:=fun i=>(each i).choose
    have hpart:∀i,Ty P (fs.toList[i]).type (part i)∧Cells w (part i) ((cs'.drop (fs.toList[i]).offset).take (P.cellsOf (fs.toList[i]).type)):=fun i=>(each i).choose_spec
    have htl:DB P fs.toList 0=some (P.cellsOf t):=h1.1;have hle:=(Ui _ _ _ htl).2
    obtain⟨k1,k2⟩:=Ic (P:=P) (R:=fun q v=>dw w (fun b=>b<w.heap.size) q v∧v.oneCell'=true) cs' fs.toList 0 _ htl (List.ofFn part) (by simp) (fun i f c hf hc=>by
     have hi:i<fs.toList.length:=(gu.1 hf).1;have hf':fs.toList[i]=f:=(gu.1 hf).2
     have hc':part ⟨i,hi⟩=c:=by
      rw[List.getElem?_ofFn]at hc;simp only[Option.dite_none_right_eq_some,bL]at hc;exact hc.choose_spec
     obtain⟨p1,p2⟩:=hpart ⟨i,hi⟩;simp only[Fin.getElem_fin,hf',hc']at p1 p2;have hfle:=hle f (mK hf);refine⟨by rw[p2.len,abD,ab4];omega,fun j q v hq hv=>⟨p2.rel j q v hq hv,p2.one v (mK hv)⟩⟩)
    refine⟨_,.struct t fs (List.ofFn part) hu (by simp) (fun i f c hf hc=>?_),by omega,fun j q v hq hv=>(k2 j q v hq (by simpa using hv)).1,fun v hv=>?_⟩
    ·have hf2:fs.toList[i]?=some f:=by simpa using hf
     have hi:i<fs.toList.length:=(gu.1 hf2).1;have hf':fs.toList[i]=f:=(gu.1 hf2).2
     have hc':part ⟨i,hi⟩=c:=by
      rw[List.getElem?_ofFn]at hc;simp only[Option.dite_none_right_eq_some,bL]at hc;exact hc.choose_spec
     have:=(hpart ⟨i,hi⟩).1;simpa only[Fin.getElem_fin,hf',hc']using this
    ·obtain⟨j,hj⟩:=Xr hv
     have hjl:j<cs'.length:=(gu.1 hj).1;have hjf:j<(List.ofFn part).flatten.length:=by omega
     exact(k2 j _ v (oh hjf) (by simpa using hj)).2
   ·cases h
  ·rename_i cs' _ _ n e hu
   rw[hu]at h1;simp only[yE,beq_iff_eq]at h1;split at h
   ·rename_i hlen
    simp only[gE]at h;obtain⟨xs,hxs,_⟩:=h;have hxl:xs.length=n:=by have:=mapM_some_length hxs;simpa using this
    have each:∀i:Fin n,∃c,Ty P e c∧Cells w c ((cs'.drop (i.1*P.cellsOf e)).take (P.cellsOf e)):=fun i=>by
     have:=mapM_some_get hxs i.1 i.1 (by simp[i.2])
     rw[oh (by omega)]at this
     exact ih _ _ _ _ (by simpa using h1.1) this
    let part:Fin n→List PV:=fun i=>(each i).choose
    have hpart:∀i,Ty P e (part i)∧Cells w (part i) ((cs'.drop (i.1*P.cellsOf e)).take (P.cellsOf e)):=fun i=>(each i).choose_spec
    have hcl:cs'.length=n*P.cellsOf e:=by rw[hlen];exact h1.2
    have hwide:∀x∈List.ofFn part,x.length=P.cellsOf e:=by
     intro x hx;rw[List.mem_ofFn]at hx;obtain⟨i,rfl⟩:=hx;rw[(hpart i).2.len,abD,ab4,hcl]
     have:i.1*P.cellsOf e+P.cellsOf e≤n*P.cellsOf e:=by
      have:=Jn (P.cellsOf e) (show i.1+1≤n from i.2);rw[acd,Nat.one_mul]at this;exact this
     omega
    have hfl:(List.ofFn part).flatten.length=cs'.length:=by rw[bU hwide,hcl];simp
    have key:∀(j:Nat) (q:PV) (v:Value),(List.ofFn part).flatten[j]?=some q→cs'[j]?=some v→dw w (fun b=>b<w.heap.size) q v∧v.oneCell'=true:=by
     intro j q v hq hv;obtain⟨i,k,row,rfl,hi,hk⟩:=pj hwide hq;have hil:i<n:=by have:=(gu.1 hi).1;simpa using this
     have hrw:row=part ⟨i,hil⟩:=by
      rw[List.getElem?_ofFn]at hi;simp[hil]at hi;exact hi.symm
     subst hrw;have hq':=gL hwide hi hk;rw[hq]at hq';have hkl:k<P.cellsOf e:=by have:=(gu.1 hk).1;rw[hwide _ (mK hi)]at this;exact this
     have hv':((cs'.drop (i*P.cellsOf e)).take (P.cellsOf e))[k]?=some v:=by
      rw[Uy,if_pos hkl,abb];exact hv
     have hc:=(hpart ⟨i,hil⟩).2;refine⟨?_,hc.one v (mK hv')⟩;have:=hc.rel k _ v hk hv';rw[abA hq'];exact this
    refine⟨_,.array t e n (List.ofFn part) hu (by simp) (fun c hc=>?_),hfl,fun j q v hq hv=>(key j q v hq hv).1,fun v hv=>?_⟩
    ·rw[List.mem_ofFn]at hc
     obtain⟨i,rfl⟩:=hc;exact(hpart i).1
    ·obtain⟨j,hj⟩:=Xr hv
     have hjl:j<cs'.length:=(gu.1 hj).1;have hjf:j<(List.ofFn part).flatten.length:=by omega
     exact(key j _ v (oh hjf) hj).2
   ·cases h
  all_goals first
   |(cases h;done)
   |(rename_i hu;simp[hu]at h1;done)
   |(rename_i hu _;simp[hu]at h1;done)
end
end Go.AE
