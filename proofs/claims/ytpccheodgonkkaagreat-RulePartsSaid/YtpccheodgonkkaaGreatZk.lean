import Derived.Test.YtpccheodgonkkaaGreatZi
import Derived.Test.YtpccheodgonkkaaGreatA2
import Derived.Test.YtpccheodgonkkaaGreatRows
import Derived.Shelf.Spec.SlicesInsertGrow
import Derived.Test.YtpccheodgonkkaaGreatZj
set_option maxHeartbeats 0
set_option linter.unusedSimpArgs false
set_option linter.unusedVariables false
namespace Go.AE
variable {p:Program}
def lay(o:Nat)(vs cs:List Value):List Value:=cs.take o++vs++cs.drop (o+vs.length)
theorem wY{o:Nat}{vs cs:List Value}(h:o+vs.length≤cs.length):(lay o vs cs).length=cs.length:=by
 simp[lay];omega
theorem EV{o:Nat}{vs cs:List Value}(h:o+vs.length≤cs.length)(k:Nat):(lay o vs cs)[k]?=if o≤k∧k<o+vs.length then vs[k-o]? else cs[k]? := by
 have:b9 o vs cs=some (lay o vs cs):=by unfold b9 lay;rw[if_pos h]
 exact(pt this).2 k
theorem um(w:World)(dT sT ty elem:TypeId)(b o dLen dCap:Nat)(a:Addr)(sLen sCap s:Nat)(vs:List Value)(cc:Array Value)(ct:TypeId)
  (hu:p.underlying dT=some (.slice elem)) (hs:(p.info? elem).map (·.size)=some s) (hn:vs.length=Nat.min sLen dLen*s)
  (hsrc:∀j v,vs[j]?=some v→w.cell? (a.add j)=some v) (hh:w.heap[b]?=some (.cells cc ct (0,0))) (hb:o+vs.length≤cc.size) (h1:∀v∈vs,v.oneCell'=true) :
  (Builtin.copy_ #[dT,sT] ty #[.slice (some ⟨b,o,none⟩) dLen dCap,.slice (some a) sLen sCap]).run p w=.ok (goInt (Nat.min sLen dLen)) (w.setRow b (lay o vs cc.toList).toArray):=by
 have hl:=run_loadCells_list (P:=p) w a vs hsrc;have hst:=run_storeCells_at p b o ct vs 0 cc w hh (by simpa using hb) h1
 simp only[ace]at hst;cases hq:p.info? elem with
 |none=>simp[hq]at hs
 |some i=>
  have hi:i.size=s:=by simpa[hq]using hs
  subst hi;simp[Builtin.copy_,run_underlying hu,Builtin.lenOf,Builtin.firstCells,sizeOf,typeInfo,hq,←hn,hl,hst,lay]
def rR(w:World)(iL:Option Nat)(s n m i:Nat)(cs vs:List Value)(e:Ending)(w':World):Prop :=
 ∃r c' cc' ct,e=.returned (.slice (some ⟨r,0,none⟩) (n+m) c')∧n+m≤c'∧env w'=env w∧w.heap.size≤w'.heap.size∧(∀q,q<w.heap.size→iL≠some q→w'.heap[q]?=w.heap[q]?) ∧
  (iL=some r∨(w.heap.size≤r∧r<w'.heap.size))∧w'.heap[r]?=some (.cells cc' ct (0,0))∧c'*s≤cc'.size∧∀k,k<(n+m)*s→cc'[k]?=(cs.take (i*s)++vs++cs.drop (i*s))[k]?
end Go.AE
namespace Go.Proofs.YtpccheodgonkkaaGreat
open Go Go.AE Go.AE.S Go.Proofs Go.Lib
theorem i46:(Tryz.prog.info? 103).map (fun i=>(i.zero,i.size,i.bytes))=some (some (Value.agg #[Value.string { data:=#[] },.int .i64 0]),2,24):=by kernel_rfl
theorem z46:(Tryz.prog.info? 103).map (·.size)=some 2:=by kernel_rfl
theorem a38:∀w,(isAgg 52).run Tryz.prog w=.ok false w:=fun w=>by kernel_rfl
theorem a3:∀w,(isAgg 3).run Tryz.prog w=.ok false w:=fun w=>by kernel_rfl
theorem a4:∀w,(isAgg 4).run Tryz.prog w=.ok false w:=fun w=>by kernel_rfl
theorem z38:∀w,(Go.sizeOf 52).run Tryz.prog w=.ok 1 w:=fun w=>by kernel_rfl
theorem z3:∀w,(Go.sizeOf 3).run Tryz.prog w=.ok 1 w:=fun w=>by kernel_rfl
theorem z4:∀w,(Go.sizeOf 4).run Tryz.prog w=.ok 1 w:=fun w=>by kernel_rfl
theorem Q1:∀w,(Go.sizeOf 103).run Tryz.prog w=.ok 2 w:=fun w=>by kernel_rfl
set_option maxRecDepth 100000 in
theorem P0(b n c m vb vc:Nat)(cs vs:List Value)(cc:Array Value)(ct:TypeId)(w:World)(hm:0<m)(hroom:n+m≤c)(hbig:(n+m)*24≤140737488355328)
  (hcl:cs.length=n*2) (hvl:vs.length=m*2) (hb:w.heap[b]?=some (.cells cc ct (0,0))) (hsz:c*2≤cc.size) (hcs:∀(j:Nat) (v:Value),cs[j]?=some v→cc[j]?=some v)
  (hvs:∀j v,vs[j]?=some v→w.cell? ⟨vb,j,none⟩=some v) (h1v:∀v∈vs,v.oneCell'=true) :
  Calls Tryz.prog 189 #[.slice (some ⟨b,0,none⟩) n c,.int .i64 n,.slice (some ⟨vb,0,none⟩) m vc] w (rR w (some b) 2 n m n cs vs):=by
 have t38:=Tryz.underlying52;have t3:=Tryz.underlying3;have t4:=Tryz.underlying4;have u38:=run_underlying Tryz.underlying52;have u3:=run_underlying Tryz.underlying3;have u4:=run_underlying Tryz.underlying4;have a38:=a38;have a3:=a3;have a4:=a4;have z38:=z38;have z3:=z3;have z4:=z4;have Q1:=Q1;obtain⟨i0,hi0,hz0,hzs,hzb⟩:=info_parts i46;have hz1:¬((m:Int)=0):=by omega
 have hnew:(Builtin.firstCells i0.size m (.slice (some ⟨vb,0,none⟩) m vc)).run Tryz.prog w=.ok vs.toArray w:=by
  rw[hzs];exact run_firstCells_some w 2 m ⟨vb,0,none⟩ m vc vs (by omega) (fun j v hj=>by rw[eG,sQ];exact hvs j v hj)
 have hbd:n*2+vs.length≤cc.size:=by omega
 have hst:(storeCells (Addr.add ⟨b,0,none⟩ (n*i0.size)) vs.toArray.toList).run Tryz.prog w=.ok () (w.setRow b (lay (n*2) vs cc.toList).toArray):=by
  rw[hzs,eG,sQ];have:=run_storeCells_at Tryz.prog b (n*2) ct vs 0 cc w hb (by simpa using hbd) h1v
  simpa[lay]using this
 have hrun:=fun ty=>uk (p:=Tryz.prog) (ty:=ty) (T:=#[52,52]) (args:=#[.slice (some ⟨b,0,none⟩) n c,.slice (some ⟨vb,0,none⟩) m vc]) (t:=52) (t1:=52) (w:=w) rfl Tryz.underlying52 rfl Tryz.underlying52 (by simp) hi0 rfl rfl (fun w=>by simp[Builtin.lenOf]) hroom hnew (fun a ha=>by cases ha;exact hst) (by simp)
 go_enter Tryz.func189,Tryz.ntmps189
 go_wp2_with (at_builtin;refine Lib.wpList_append_run _ rfl _ _ _ _ rfl _ _ rfl rfl _ _ (hrun _) ?_)
 go_ret
 have hl:=wY (o:=n*2) (vs:=vs) (cs:=cc.toList) (by simpa using hbd)
 have hg:=EV (o:=n*2) (vs:=vs) (cs:=cc.toList) (by simpa using hbd)
 refine⟨b,c,_,ct,rfl,hroom,rfl,by simp,fun q _ hq=>setRow_other _ _ _ _ (fun h=>hq (by rw[h])),.inl rfl,setRow_heap _ _ _ _ _ _ hb,(by have h0:=hl;simp only[List.size_toArray,abO]at h0 ⊢;omega),fun k hk=>?_⟩
 rw[ab9,hg k];have e1:cs.take (n*2)=cs:=by rw[←hcl];exact List.take_length
 have e2:cs.drop (n*2)=[]:=by rw[←hcl];exact List.drop_length
 rw[e1,e2,abq];by_cases hk2:k<n*2
 ·rw[ym (by omega),if_neg (by omega)]
  have:cs[k]?=some cs[k]:=oh (by omega)
  rw[this];simpa using hcs k _ this
 ·rw[CG (by omega),if_pos (by omega),hcl]
set_option maxRecDepth 100000 in
theorem EI(base:Option Addr)(iL:Option Nat)(n c m vb vc:Nat)(cs vs:List Value)(w:World)(hm:0<m)(hnc:n≤c)(hroom:c<n+m)(hbig:(n+m)*24≤140737488355328)
  (hcl:cs.length=n*2) (hvl:vs.length=m*2) (hold:(Builtin.firstCells 2 n (.slice base n c)).run Tryz.prog w.drew=.ok cs.toArray w.drew) (hnb:n=0∧c=0∨∃b,base=some ⟨b,0,none⟩)
  (hvs:∀(j:Nat) (v:Value),vs[j]?=some v→w.cell? ⟨vb,j,none⟩=some v) :
  Calls Tryz.prog 189 #[.slice base n c,.int .i64 n,.slice (some ⟨vb,0,none⟩) m vc] w (rR w iL 2 n m n cs vs):=by
 have t38:=Tryz.underlying52;have t3:=Tryz.underlying3;have t4:=Tryz.underlying4;have u38:=run_underlying Tryz.underlying52;have u3:=run_underlying Tryz.underlying3;have u4:=run_underlying Tryz.underlying4;have a38:=a38;have a3:=a3;have a4:=a4;have z38:=z38;have z3:=z3;have z4:=z4;have Q1:=Q1;obtain⟨i0,hi0,hz0,hzs,hzb⟩:=info_parts i46;have hz1:¬((m:Int)=0):=by omega
 have hnew:(Builtin.firstCells i0.size m (.slice (some ⟨vb,0,none⟩) m vc)).run Tryz.prog w.drew=.ok vs.toArray w.drew:=by
  rw[hzs];exact run_firstCells_some w.drew 2 m ⟨vb,0,none⟩ m vc vs (by omega) (fun j v hj=>by rw[eG,sQ];exact hvs j v hj)
 rw[←hzs]at hold;have hrun:=fun ty=>tK (p:=Tryz.prog) (ty:=ty) (T:=#[52,52]) (args:=#[.slice base n c,.slice (some ⟨vb,0,none⟩) m vc]) (t:=52) (t1:=52) (w:=w) rfl Tryz.underlying52 rfl Tryz.underlying52 (by simp) hi0 hz0 rfl rfl (fun w=>by simp[Builtin.lenOf]) hroom (by rw[hzb];decide) (by rw[hzb];exact hbig) hold hnew
 obtain⟨g1,g2⟩:=Ba (es:=2) (n:=n) (cnt:=m) (cap:=grownCap w (n+m) c 103) (z:=(Value.agg #[Value.string { data:=#[] },.int .i64 0]).cells) (old:=cs) (new:=vs) hcl hvl rfl (pk _ _ _ _);obtain⟨G,hG⟩:∃G,G=grownCap w (n+m) c 103:=⟨_,rfl⟩;have hGe:=pk w (n+m) c 103;rw[←hG]at hrun g1 g2 hGe;obtain⟨ROW,hROW⟩:∃ROW:Array Value,ROW=cs.toArray++vs.toArray++Builtin.zeroCells (Value.agg #[Value.string { data:=#[] },.int .i64 0]).cells (G-(n+m)):=⟨_,rfl⟩;rw[←hROW]at hrun g1 g2
 have fin:rR w iL 2 n m n cs vs (.returned (.slice (some ⟨w.heap.size,0,none⟩) (n+m) G)) (w.drew.alloc (.cells ROW 103)):=by
  refine⟨_,G,ROW,103,rfl,hGe,rfl,by simp,fun q hq _=>heap_alloc_old w.drew _ hq,.inr ⟨qj _,by simp⟩,heap_alloc_new w.drew _,Nat.le_of_eq g1.symm,fun k hk=>?_⟩
  have e1:cs.take (n*2)=cs:=by rw[←hcl];exact List.take_length
  have e2:cs.drop (n*2)=[]:=by rw[←hcl];exact List.drop_length
  rw[g2 k (by omega),e1,e2,abq]
 clear hROW hG
 go_enter Tryz.func189,Tryz.ntmps189
 rcases hnb with⟨rfl,rfl⟩|⟨b,rfl⟩
 ·cases base with
  |none=>
   go_wp2_with (at_builtin;refine Lib.wpList_append_run _ rfl _ _ _ _ rfl _ _ rfl rfl _ _ (hrun _) ?_)
   go_ret
   rw[sQ]at fin;exact fin
  |some a=>
   obtain⟨ab,ao,asp⟩:=a
   go_wp2_with (at_builtin;refine Lib.wpList_append_run _ rfl _ _ _ _ rfl _ _ rfl rfl _ _ (hrun _) ?_)
   all_goals (go_ret;first|exact fin|(rw[sQ]at fin;exact fin))
 ·go_wp2_with (at_builtin;refine Lib.wpList_append_run _ rfl _ _ _ _ rfl _ _ rfl rfl _ _ (hrun _) ?_)
  all_goals (go_ret;first|exact fin|(rw[sQ]at fin;exact fin))
set_option maxRecDepth 100000 in
theorem Zn(b n c i m vb vc:Nat)(cs vs:List Value)(cc vcc:Array Value)(ct vt:TypeId)(w:World)(hi:i<n)(hm:0<m)(hroom:n+m≤c)(hbig:(n+m)*24≤140737488355328)(hvb:vb≠b)
  (hcl:cs.length=n*2) (hvl:vs.length=m*2) (hb:w.heap[b]?=some (.cells cc ct (0,0))) (hsz:c*2≤cc.size) (hcs:∀(j:Nat) (v:Value),cs[j]?=some v→cc[j]?=some v)
  (hvh:w.heap[vb]?=some (.cells vcc vt (0,0))) (hvs:∀(j:Nat) (v:Value),vs[j]?=some v→vcc[j]?=some v) (h1c:∀v∈cs,v.oneCell'=true) (h1v:∀v∈vs,v.oneCell'=true) :
  Calls Tryz.prog 189 #[.slice (some ⟨b,0,none⟩) n c,.int .i64 i,.slice (some ⟨vb,0,none⟩) m vc] w (rR w (some b) 2 n m i cs vs):=by
 have t38:=Tryz.underlying52;have t3:=Tryz.underlying3;have t4:=Tryz.underlying4;have u38:=run_underlying Tryz.underlying52;have u3:=run_underlying Tryz.underlying3;have u4:=run_underlying Tryz.underlying4;have a38:=a38;have a3:=a3;have a4:=a4;have z38:=z38;have z3:=z3;have z4:=z4;have Q1:=Q1;have hz1:¬((m:Int)=0):=by omega
 have hz2:¬((i:Int)=(n:Int)):=by omega
 have hsa:w.shape? vb=some (vt,vcc.size):=by simp[World.shape?,hvh]
 have hsb:w.shape? b=some (ct,cc.size):=by simp[World.shape?,hb]
 have hfr:∀k,w.frozen? ⟨vb,k,none⟩=false:=fun k=>by simp[World.frozen?,hvh]
 have hov:∀lb cb,(callFunc 228 #[.slice (some ⟨vb,0,none⟩) m vc,.slice (some ⟨b,(i+m)*2,none⟩) lb cb]).run Tryz.prog w=.ok (.value (.bool false)) w:=fun lb cb=>by
  rw[run_callFunc_extern Tryz.func228 (by kernel_rfl) (by kernel_rfl) (by kernel_rfl) (e:=Extern.SlicesOverlaps.overlaps #[52,52] #[4]) (by kernel_rfl),
   Lib.run_overlaps_apart w 52 4 103 Tryz.underlying52 2 Q1 ⟨vb,0,none⟩ ⟨b,(i+m)*2,none⟩ m vc lb cb hvb vt ct vcc.size cc.size hsa hsb (by omega) (hfr _) (hfr _)]
  rfl
 have hdl:(cs.drop (i*2)).length=(n-i)*2:=by rw[ab4,hcl];omega
 have mixed:Tryz.prog.follows .mixedOrders=true:=by kernel_rfl
 have hw1:IntKind.i64.wrap ((i:Int)+(m:Int))=(i:Int)+(m:Int):=by rw[IntKind.wrap_i64];omega
 have hb1:(0:Int)≤(i:Int)+(m:Int):=by omega
 have hin:i≤n:=by omega
 have htn:((i:Int)+(m:Int)).toNat=i+m:=by omega
 have hb2:¬(c=i+m):=by omega
 have hb3:(i:Int)≤(n:Int)+(m:Int):=by omega
 have hb4:¬(c=i):=by omega
 have hbd1:(i+m)*2+(cs.drop (i*2)).length≤cc.size:=by omega
 have hcp1:∀ty dc sc,(Builtin.copy_ #[52,52] ty #[.slice (some ⟨b,(i+m)*2,none⟩) (n+m-(i+m)) dc,.slice (some ⟨b,i*2,none⟩) (n+m-i) sc]).run Tryz.prog w.drew=.ok (goInt (Nat.min (n+m-i) (n+m-(i+m)))) (w.drew.setRow b (lay ((i+m)*2) (cs.drop (i*2)) cc.toList).toArray):=fun ty dc sc=>
  um w.drew 52 52 ty 103 b ((i+m)*2) (n+m-(i+m)) dc ⟨b,i*2,none⟩ (n+m-i) sc 2 (cs.drop (i*2)) cc ct Tryz.underlying52 z46 (by rw[hdl];simp only[Nat.min_def];split<;>omega)
   (fun j v hj=>by rw[eG,ji (show w.drew.heap[b]?=some (.cells cc ct (0,0))from hb)];exact hcs _ v (by rwa [abb]at hj)) hb hbd1 (fun v hv=>h1c v (abC hv))
 have hbd1L:(i+m)*2+(cs.drop (i*2)).length≤cc.toList.length:=by rw[abO];exact hbd1
 obtain⟨c1,hc1⟩:∃c1,c1=lay ((i+m)*2) (cs.drop (i*2)) cc.toList:=⟨_,rfl⟩;have hl1:c1.length=cc.size:=by rw[hc1,wY hbd1L,abO]
 have hg1:=EV hbd1L;rw[←hc1]at hg1;rw[←hc1]at hcp1;have hb1':(w.drew.setRow b c1.toArray).heap[b]?=some (.cells c1.toArray ct (0,0)):=setRow_heap _ _ _ _ _ _ hb;have hv1':(w.drew.setRow b c1.toArray).heap[vb]?=some (.cells vcc vt (0,0)):=by rw[setRow_other _ _ _ _ hvb];exact hvh
 have hbd2:i*2+vs.length≤c1.toArray.size:=by simp only[List.size_toArray];omega
 have hcp2:∀(W:World),W.heap=(w.drew.setRow b c1.toArray).heap→∀ty dc,(Builtin.copy_ #[52,52] ty #[.slice (some ⟨b,i*2,none⟩) (n+m-i) dc,.slice (some ⟨vb,0,none⟩) m vc]).run Tryz.prog W=.ok (goInt (Nat.min m (n+m-i))) (W.setRow b (lay (i*2) vs c1).toArray):=fun W hW ty dc=>by
  have:=um W 52 52 ty 103 b (i*2) (n+m-i) dc ⟨vb,0,none⟩ m vc 2 vs c1.toArray ct Tryz.underlying52 z46 (by rw[hvl];simp only[Nat.min_def];split<;>omega)
   (fun j v hj=>by rw[eG,wT (w:=w.drew.setRow b c1.toArray) (by rw[hW]),ji hv1',sQ];exact hvs _ v hj) (by rw[hW];exact hb1') hbd2 h1v
  simpa using this
 have hg2:=EV (o:=i*2) (vs:=vs) (cs:=c1) (by simpa using hbd2)
 have hl2:=wY (o:=i*2) (vs:=vs) (cs:=c1) (by simpa using hbd2)
 obtain⟨c2,hc2⟩:∃c2,c2=lay (i*2) vs c1:=⟨_,rfl⟩;rw[←hc2]at hcp2 hg2 hl2
 have fin:∀w',w'.heap=((w.drew.setRow b c1.toArray).setRow b c2.toArray).heap→env w'=env w→rR w (some b) 2 n m i cs vs (.returned (.slice (some ⟨b,0,none⟩) (n+m) c)) w':=by
  intro w' hh he;refine⟨b,c,c2.toArray,ct,rfl,hroom,he,by rw[hh];exact Nat.le_of_eq (by simp),fun q _ hq=>?_,.inl rfl,by rw[hh];exact setRow_heap _ _ _ _ _ _ hb1',by simpa[hl2,hl1]using hsz,fun k hk=>?_⟩
  ·have hqb:q≠b:=fun h=>hq (by rw[h])
   rw[hh,setRow_other _ _ _ _ hqb,setRow_other _ _ _ _ hqb];rfl
  ·rw[ab9,hg2 k,hg1 k,hdl,hvl]
   have ht:(cs.take (i*2)).length=i*2:=by rw[abD];omega
   by_cases k1:k<i*2
   ·rw[if_neg (by omega),if_neg (by omega),Ux,ym (by omega),Uy,if_pos k1]
    have:cs[k]?=some cs[k]:=oh (by omega)
    rw[this];simpa using hcs k _ this
   ·by_cases k2:k<(i+m)*2
    ·rw[if_pos (by omega),Ux,CG (by omega),ht,ym (by omega)]
    ·rw[if_neg (by omega),if_pos (by omega),CG (by rw[mh];omega),mh,ht,hvl]
     congr 1
     omega
 clear hc1 hc2
 go_enter Tryz.func189,Tryz.ntmps189
 go_wp2_with (simp only[hov])
 go_region_law_o (refine step_copy_runI rfl _ _ 52 52 rfl _ _ (by simp[Act.eval,Act.put]) (by simp[Act.eval,Act.put]) (hcp1 _ _ _) ?_)
 go_wp2_with (at_builtin;refine wpList_copy_runI _ rfl _ _ 52 52 rfl _ _ rfl rfl (hcp2 _ rfl _ _) ?_)
 go_ret
 exact fin _ rfl rfl
set_option maxRecDepth 100000 in
theorem ad0(b n c i m vb vc:Nat)(cs vs:List Value)(cc vcc:Array Value)(ct vt:TypeId)(w:World)(hi:i<n)(hm:0<m)(hnc:n≤c)(hroom:c<n+m)(hbig:(n+m)*24≤140737488355328)
  (hcl:cs.length=n*2) (hvl:vs.length=m*2) (hb:w.heap[b]?=some (.cells cc ct (0,0))) (hcs:∀(j:Nat) (v:Value),cs[j]?=some v→cc[j]?=some v)
  (hvh:w.heap[vb]?=some (.cells vcc vt (0,0))) (hvs:∀(j:Nat) (v:Value),vs[j]?=some v→vcc[j]?=some v) (h1c:∀v∈cs,v.oneCell'=true) (h1v:∀v∈vs,v.oneCell'=true) :
  Calls Tryz.prog 189 #[.slice (some ⟨b,0,none⟩) n c,.int .i64 i,.slice (some ⟨vb,0,none⟩) m vc] w (rR w (some b) 2 n m i cs vs):=by
 have t38:=Tryz.underlying52;have t3:=Tryz.underlying3;have t4:=Tryz.underlying4;have u38:=run_underlying Tryz.underlying52;have u3:=run_underlying Tryz.underlying3;have u4:=run_underlying Tryz.underlying4;have a38:=a38;have a3:=a3;have a4:=a4;have z38:=z38;have z3:=z3;have z4:=z4;have Q1:=Q1;obtain⟨i0,hi0,hz0,hzs,hzb⟩:=info_parts i46;have mixed:Tryz.prog.follows .mixedOrders=true:=by kernel_rfl
 have hz1:¬((m:Int)=0):=by omega
 have hz2:¬((i:Int)=(n:Int)):=by omega
 have hz3:(c:Int)<(n:Int)+(m:Int):=by omega
 have hbw:b<w.heap.size:=(Q6.1 hb).1;have hvw:vb<w.heap.size:=(Q6.1 hvh).1;have hkk:(n:Int)+(m:Int)-(i:Int)=((n+m-i:Nat):Int):=by omega
 have hik:i+(n+m-i)=n+m:=by omega
 have htl:(cs.take (i*2)).length=i*2:=by rw[abD];omega
 have hold:(Builtin.firstCells i0.size i (.slice (some ⟨b,0,none⟩) i c)).run Tryz.prog w.drew=.ok (cs.take (i*2)).toArray w.drew:=by
  rw[hzs]
  exact run_firstCells_some w.drew 2 i ⟨b,0,none⟩ i c (cs.take (i*2)) (by omega) (fun j v hj=>by
   rw[eG,ji (show w.drew.heap[b]?=some (.cells cc ct (0,0))from hb),sQ];rw[Uy]at hj;split at hj
   ·exact hcs j v hj
   ·cases hj)
 have hrz:∀ty,(Builtin.append_ #[52,3] ty #[.slice (some ⟨b,0,none⟩) i c,.int .i64 ((n:Int)+(m:Int)-(i:Int))]).run Tryz.prog w =
   .ok (.slice (some ⟨w.heap.size,0,none⟩) (n+m) (grownCap w (n+m) c 103)) (w.drew.alloc (.cells ((cs.take (i*2)).toArray++Builtin.zeroCells (Value.agg #[Value.string { data:=#[] },.int .i64 0]).cells (n+m-i)++Builtin.zeroCells (Value.agg #[Value.string { data:=#[] },.int .i64 0]).cells (grownCap w (n+m) c 103-(n+m))) 103)):=fun ty=>by
  have h:=Lib.run_append_grow_zeros w 52 3 ty 103 i0 _ .i64 .i64 Tryz.underlying52 Tryz.underlying3 hi0 hz0 (some ⟨b,0,none⟩) i c (cs.take (i*2)) hold (n+m-i) (by omega) (by omega) (by omega) (by omega) (by rw[hzb];omega) (by rw[hzb,hik];exact growslice_fits hroom hbig)
  rw[hik]at h;rw[hkk];exact h
 have hGn:=pk w (n+m) c 103;obtain⟨G,hG⟩:∃G,G=grownCap w (n+m) c 103:=⟨_,rfl⟩;obtain⟨ROW,hROW⟩:∃ROW:Array Value,ROW=(cs.take (i*2)).toArray++Builtin.zeroCells (Value.agg #[Value.string { data:=#[] },.int .i64 0]).cells (n+m-i)++Builtin.zeroCells (Value.agg #[Value.string { data:=#[] },.int .i64 0]).cells (G-(n+m)):=⟨_,rfl⟩
 have hG63:G≤9223372036854775807:=by
  have:=grownCap_le_maxLen w (n+m) c 103 (by unfold maxLen;omega)
  rw[←hG]at this;unfold maxLen at this;omega
 rw[←hG]at hrz hGn;rw[←hROW]at hrz
 have hRl:ROW.size=G*2:=by
  rw[hROW];simp[Builtin.zeroCells,Value.cells];omega
 have hRg:∀k,k<i*2→ROW[k]?=cs[k]? := fun k hk=>by
  rw[hROW,Array.append_assoc,Array.getElem?_append_left (by simpa using Nat.lt_of_lt_of_eq hk htl.symm)]
  simp[Uy,hk]
 obtain⟨W1,hW1⟩:∃W1,W1=w.drew.alloc (.cells ROW 103):=⟨_,rfl⟩;rw[←hW1]at hrz;have hN:W1.heap[w.heap.size]?=some (.cells ROW 103 (0,0)):=by rw[hW1];exact heap_alloc_new w.drew _
 have hOb:∀q,q<w.heap.size→W1.heap[q]?=w.heap[q]? := fun q hq=>by rw[hW1];exact heap_alloc_old w.drew _ hq
 have hbd1:i*2+vs.length≤ROW.size:=by omega
 have hcpA:∀(W:World),W.heap=W1.heap→∀ty dc,(Builtin.copy_ #[52,52] ty #[.slice (some ⟨w.heap.size,i*2,none⟩) (n+m-i) dc,.slice (some ⟨vb,0,none⟩) m vc]).run Tryz.prog W=.ok (goInt (Nat.min m (n+m-i))) (W.setRow w.heap.size (lay (i*2) vs ROW.toList).toArray):=fun W hW ty dc=>
  um W 52 52 ty 103 w.heap.size (i*2) (n+m-i) dc ⟨vb,0,none⟩ m vc 2 vs ROW 103 Tryz.underlying52 z46 (by rw[hvl];simp only[Nat.min_def];split<;>omega)
   (fun j v hj=>by rw[eG,ji (show W.heap[vb]?=some (.cells vcc vt (0,0)) by rw[hW,hOb _ hvw];exact hvh),sQ];exact hvs _ v hj) (by rw[hW];exact hN) hbd1 h1v
 obtain⟨c1,hc1⟩:∃c1,c1=lay (i*2) vs ROW.toList:=⟨_,rfl⟩;have hbd1L:i*2+vs.length≤ROW.toList.length:=by rw[abO];exact hbd1
 have hl1:c1.length=ROW.size:=by rw[hc1,wY hbd1L,abO]
 have hg1:=EV hbd1L;rw[←hc1]at hg1 hcpA;have hGi:¬(G=i):=by omega
 have hGim:¬(G=i+m):=by omega
 have hci:¬(c=i):=by omega
 have hbN:b≠w.heap.size:=by omega
 have hdl:(cs.drop (i*2)).length=(n-i)*2:=by rw[ab4,hcl];omega
 have hN1:∀W:World,W.heap=W1.heap→(W.setRow w.heap.size c1.toArray).heap[w.heap.size]?=some (.cells c1.toArray 103 (0,0)):=fun W hW=>setRow_heap _ _ _ _ _ _ (by rw[hW];exact hN)
 have hbd2:(i+m)*2+(cs.drop (i*2)).length≤c1.toArray.size:=by simp only[List.size_toArray];omega
 have hcpB:∀(W:World),W.heap=(W1.setRow w.heap.size c1.toArray).heap→∀ty dc sc,(Builtin.copy_ #[52,52] ty #[.slice (some ⟨w.heap.size,(i+m)*2,none⟩) (n+m-(i+m)) dc,.slice (some ⟨b,i*2,none⟩) (n-i) sc]).run Tryz.prog W=.ok (goInt (Nat.min (n-i) (n+m-(i+m)))) (W.setRow w.heap.size (lay ((i+m)*2) (cs.drop (i*2)) c1).toArray):=fun W hW ty dc sc=>by
  have:=um W 52 52 ty 103 w.heap.size ((i+m)*2) (n+m-(i+m)) dc ⟨b,i*2,none⟩ (n-i) sc 2 (cs.drop (i*2)) c1.toArray 103 Tryz.underlying52 z46 (by rw[hdl];simp only[Nat.min_def];split<;>omega)
   (fun j v hj=>by
    rw[eG,ji (show W.heap[b]?=some (.cells cc ct (0,0)) by rw[hW,setRow_other _ _ _ _ hbN,hOb _ hbw];exact hb)]
    exact hcs (i*2+j) v (by rwa [abb]at hj)) (by rw[hW];exact hN1 W1 rfl) hbd2 (fun v hv=>h1c v (abC hv))
  simpa using this
 have hbd2L:(i+m)*2+(cs.drop (i*2)).length≤c1.length:=by simpa only[List.size_toArray]using hbd2
 have hg2:=EV hbd2L;have hl2:=wY hbd2L;obtain⟨c2,hc2⟩:∃c2,c2=lay ((i+m)*2) (cs.drop (i*2)) c1:=⟨_,rfl⟩;rw[←hc2]at hcpB hg2 hl2
 have fin:∀w',w'.heap=((W1.setRow w.heap.size c1.toArray).setRow w.heap.size c2.toArray).heap→env w'=env w→rR w (some b) 2 n m i cs vs (.returned (.slice (some ⟨w.heap.size,0,none⟩) (n+m) G)) w':=by
  intro w' hh he;have hsz:W1.heap.size=w.heap.size+1:=by rw[hW1];simp
  have hw's:w'.heap.size=w.heap.size+1:=by rw[hh];simp[hsz]
  refine⟨w.heap.size,G,c2.toArray,103,rfl,hGn,he,by omega,fun q hq _=>?_,.inr ⟨qj _,by omega⟩,by rw[hh];exact setRow_heap _ _ _ _ _ _ (hN1 W1 rfl),Nat.le_of_eq (Eq.symm (by simp[hl2,hl1,hRl])),fun k hk=>?_⟩
  ·have hqb:q≠w.heap.size:=by omega
   rw[hh,setRow_other _ _ _ _ hqb,setRow_other _ _ _ _ hqb,hOb q hq]
  ·rw[ab9,hg2 k,hg1 k,hdl,hvl]
   by_cases k1:k<i*2
   ·rw[if_neg (by omega),if_neg (by omega),Ux,ym (by omega),Uy,if_pos k1,Array.getElem?_toList,hRg k k1]
   ·by_cases k2:k<(i+m)*2
    ·rw[if_neg (by omega),if_pos (by omega),Ux,CG (by omega),htl,ym (by omega)]
    ·rw[if_pos (by omega),CG (by rw[mh];omega),mh,htl,hvl]
     congr 1
     omega
 subst hW1;have hw1:IntKind.i64.wrap ((i:Int)+(m:Int))=(i:Int)+(m:Int):=by rw[IntKind.wrap_i64];omega
 have hb1:(0:Int)≤(i:Int)+(m:Int):=by omega
 have hin:i≤n:=by omega
 have htn:((i:Int)+(m:Int)).toNat=i+m:=by omega
 have hb3:(i:Int)≤(n:Int):=by omega
 have hE:((w.alloc (.cells ROW 103)).drew).heap=(w.drew.alloc (.cells ROW 103)).heap:=rfl;have hF:(((w.alloc (.cells ROW 103)).drew.setRow w.heap.size c1.toArray).drew).heap=((w.drew.alloc (.cells ROW 103)).setRow w.heap.size c1.toArray).heap:=rfl;clear hkk hik hold hROW hG hRl hRg hc1 hc2 hg1 hg2 hl1 hl2
 go_enter Tryz.func189,Tryz.ntmps189
 go_wp2_with (at_builtin;refine Lib.wpList_append_run _ rfl _ _ _ _ rfl _ _ rfl rfl _ _ (hrz _) ?_)
 go_region_law_o (refine step_copy_runI rfl _ _ 52 52 rfl (.slice (some ⟨w.heap.size,(i+m)*2,none⟩) (n+m-(i+m)) (G-(i+m))) (.slice (some ⟨b,i*2,none⟩) (n-i) (c-i)) (by simp[Act.eval,Act.put]) (by simp[Act.eval,Act.put]) (hcpB _ hF 3 (G-(i+m)) (c-i)) ?_)
 go_wp2
 go_ret
 exact fin _ rfl rfl
end Go.Proofs.YtpccheodgonkkaaGreat
namespace Go.AE
variable {p:Program} {cq:FuncId→Bool}
def UI{α β:Type}(R:α→β→Prop)(xs:List α)(ys:List β):Prop:=xs.length=ys.length∧∀(k:Nat) (a:α),xs[k]?=some a→∃v,ys[k]?=some v∧R a v
theorem UI.append{α β:Type}{R:α→β→Prop}{xs xs':List α}{ys ys':List β}(h:UI R xs ys)(h':UI R xs' ys'):UI R (xs++xs') (ys++ys'):=by
 refine⟨by simp[h.1,h'.1],fun k a hk=>?_⟩
 by_cases hl:k<xs.length
 ·rw[ym hl]at hk
  rw[ym (by rw[←h.1];exact hl)]
  exact h.2 k a hk
 ·rw[CG (by omega)]at hk
  rw[CG (by rw[←h.1];omega),←h.1]
  exact h'.2 _ a hk
theorem UI.take{α β:Type}{R:α→β→Prop}{xs:List α}{ys:List β}(h:UI R xs ys)(n:Nat):UI R (xs.take n) (ys.take n):=by
 refine⟨by simp[h.1],fun k a hk=>?_⟩
 rw[Uy]at hk ⊢;split at hk
 ·rename_i hlt
  rw[if_pos hlt];exact h.2 k a hk
 ·cases hk
theorem UI.drop{α β:Type}{R:α→β→Prop}{xs:List α}{ys:List β}(h:UI R xs ys)(n:Nat):UI R (xs.drop n) (ys.drop n):=by
 refine⟨by simp[h.1],fun k a hk=>?_⟩
 rw[abb]at hk ⊢;exact h.2 _ a hk
theorem Ez{α:Type}{es:Nat}:∀(rows:List (List α)) (i:Nat),(∀x∈rows,x.length=es)→(rows.take i).flatten=rows.flatten.take (i*es)
 |rows,0,_=>by simp
 | [],i+1,_=>by simp
 |x::r,i+1,h=>by
  have hx:=h x (by simp)
  rw[abR,abi,abi,Ez r i (fun y hy=>h y (by simp[hy])),Xs,List.take_append,hx,Nat.add_sub_cancel,List.take_of_length_le (l:=x) (by omega)]
theorem Ew{α:Type}{es:Nat}:∀(rows:List (List α)) (i:Nat),(∀x∈rows,x.length=es)→(rows.drop i).flatten=rows.flatten.drop (i*es)
 |rows,0,_=>by simp
 | [],i+1,_=>by simp
 |x::r,i+1,h=>by
  have hx:=h x (by simp)
  rw[List.drop_succ_cons,abi,Ew r i (fun y hy=>h y (by simp[hy])),Xs,List.drop_append,hx,Nat.add_sub_cancel,ab7 (l:=x) (by omega),yK]
theorem Hj{V:View}(hS:cE p cq V){b e es n m i:Nat}{rows new:List (List PV)}{l:Loc}{cs vs:List Value}{x:Ending}{w':World}
  (ho:V.σ[b]?=some (.pv e rows false)) (hl:V.own[b]?=some l) (hn:rows.length=n) (hm:new.length=m) (hm0:0<m) (hes:0<es) (hi:i≤n)
  (hwr:∀x∈ay rows,x.length=es) (hwn:∀x∈ay new,x.length=es)
  (hc:UI (fun a v=>v.oneCell'=true∧aV V a v) (ay rows).flatten cs) (hv:UI (fun a v=>v.oneCell'=true∧aV V a v) (ay new).flatten vs) (h:rR V.w l.iL es n m i cs vs x w') :
  ∃u,x=.returned u∧Left p cq V (.sl b (n+m)) (V.σ.set b (.pv es (rows.take i++new++rows.drop i) false)) u w':=by
 obtain⟨r,c',cc',ct,rfl,h1,h2,h3,h4,h5,h6,h7,h8⟩:=h;have hbo:b<V.own.length:=(gu.1 hl).1;have hbσ:b<V.σ.length:=(gu.1 ho).1;have hlen:(rows.take i++new++rows.drop i).length=n+m:=by simp[hn,hm];omega
 have hR:ay (rows.take i++new++rows.drop i)=(ay rows).take i++ay new++(ay rows).drop i:=by simp[ay,acm,List.map_drop]
 have hwide:∀x∈ay (rows.take i++new++rows.drop i),x.length=es:=by
  intro x hx;rw[hR]at hx;rcases Gb.1 hx with hx|hx
  ·rcases Gb.1 hx with hx|hx
   ·exact hwr x (abK hx)
   ·exact hwn x hx
  ·exact hwr x (abC hx)
 have hfl:(ay (rows.take i++new++rows.drop i)).flatten=(ay rows).flatten.take (i*es)++(ay new).flatten++(ay rows).flatten.drop (i*es):=by
  rw[hR,List.flatten_append,List.flatten_append,Ez _ _ hwr,Ew _ _ hwr]
 have hp:=((hc.take (i*es)).append hv).append (hc.drop (i*es));rw[←hfl]at hp
 have key:=hS.Mp (l':=⟨some r,c'⟩) (o':=.pv es (rows.take i++new++rows.drop i) false) (w':=w') hl ho rfl (by
   simp only[Obj.sh,Sh.le,hlen,hn]
   right
   omega) h2 h3 (fun q hq hne=>h4 q hq hne) (fun r' _ hr=>by
    simp only[bL]at hr;subst hr;exact h5) (fun ee=>by
    refine((lU_rel (o:=.pv es (rows.take i++new++rows.drop i) false) rfl).2.2 p cq _ _).2 ⟨hwide,by rw[dU,hlen];exact h1,by simp,by omega,fun q hq=>?_⟩
    simp only[bL]at hq;subst hq;refine⟨cc',ct,h6,h7,fun k a ha=>?_⟩
    obtain⟨v,v1,v2,v3⟩:=hp.2 k a ha
    have hk:k<(n+m)*es:=by
     have:=(gu.1 ha).1;rw[bU hwide,dU,hlen]at this;exact this
    exact⟨v,by rw[h8 k hk];exact v1,v2,v3.mono ee⟩)
 refine⟨_,rfl,_,_,key.1,?_,key.2⟩;refine .sl _ _ _ _ (.vec es (n+m)) (by simp only[View.sh,Xp hbσ,vd,Obj.sh,hlen]) (fun es' m' h=>by cases h;exact qj _) (fun es' l'' _ hl''=>?_)
 simp only[Xp hbo,bL]at hl'';subst hl'';exact⟨fun _=>rfl,rfl⟩
end Go.AE
namespace Go.Proofs.YtpccheodgonkkaaGreat
open Go Go.AE Go.AE.S
theorem ad1:(Tryz.f189.name == "runtime.NumGoroutine")=false:=by kernel_rfl
theorem adY:Tryz.f189.body.isNone=false:=by kernel_rfl
theorem ah6(args:Array Value)(w:World):(callFunc bK args).run Tryz.prog w=.ok (.enter bK args) w:=by
 have h:Tryz.prog.funcs[bK]?=some Tryz.f189:=Tryz.func189;have h1:¬Tryz.f189.name = "runtime.NumGoroutine" := by simpa using ad1
 have h2:¬Tryz.f189.body=none:=by have:=adY;intro h;rw[h]at this;cases this
 simp[callFunc,h,h1,h2]
set_option maxRecDepth 100000 in
theorem adZ{args:List AV}{σ σ':ae}{v:AV}(h:Cv 2 24 args σ=some (v,σ')):jR Tryz.prog cq bK args σ v σ':=by
 refine .inr ⟨rfl,fun own ok w us hS hrel=>?_⟩
 unfold Cv at h;split at h
 rotate_left
 ·cases h
 rename_i b n i c m;split at h
 rotate_left
 ·cases h
 rename_i e rows e' new fz ho hoc;split at h
 rotate_left
 ·cases h
 rename_i hcond;obtain⟨hn,hm,hbc,he,rfl,hm0,hi0,hin,hbig⟩:=hcond;simp only[bL,pY]at h;obtain⟨rfl,rfl⟩:=h;rw[ah6]
 match us,hrel.len with
 | [x,y,z],_=>
 have hx:=hrel.rel 0 _ x rfl rfl;have hy:=hrel.rel 1 _ y rfl rfl;have hz:=hrel.rel 2 _ z rfl rfl;obtain⟨l,hl⟩:=hS.nA ho;obtain⟨lc,hlc⟩:=hS.nA hoc;obtain⟨s1,s2,s3⟩:=lU_rel (o:=.pv e rows false) rfl;obtain⟨t1,t2,t3⟩:=lU_rel (o:=.pv 2 new fz) rfl;have hvec:=(s3 Tryz.prog cq _ l).1 (hS.obj b l _ hl ho);have hvecc:=(t3 Tryz.prog cq _ lc).1 (hS.obj c lc _ hlc hoc)
 have hyv:y=.int .i64 i:=by
  cases hy with
  |p h=>cases h;rfl
 subst hyv
 have hxv:∃ba,x=.slice ba n l.cap∧(l.cap≠0→ba=l.addr):=by
  cases hx with
  |sl _ _ ba c' sh hs hnn hp=>
   have hs':sh=.vec e n:=by
    have:sh=.vec e (ay rows).length:=by rw[←s1];simpa[View.sh,ho]using hs.symm
    rw[this,dU,hn]
   obtain⟨q1,rfl⟩:=hp e l hs' hl;exact⟨ba,rfl,q1⟩
 have hzv:∃bc,z=.slice bc m lc.cap∧(lc.cap≠0→bc=lc.addr):=by
  cases hz with
  |sl _ _ ba c' sh hs hnn hp=>
   have hs':sh=.vec 2 m:=by
    have:sh=.vec 2 (ay new).length:=by rw[←t1];simpa[View.sh,hoc]using hs.symm
    rw[this,dU,hm]
   obtain⟨q1,rfl⟩:=hp 2 lc hs' hlc;exact⟨ba,rfl,q1⟩
 obtain⟨ba,rfl,hba⟩:=hxv;obtain⟨bc,rfl,hbcc⟩:=hzv;have hcapc:=hvecc.cap;rw[dU,hm]at hcapc;have hbc':=hbcc (by omega)
 subst hbc'
 obtain⟨vb,hvb⟩:∃vb,lc.iL=some vb:=by
  cases hb:lc.iL with
  |none=>have:=hvecc.nil hb;omega
  |some r=>exact⟨r,rfl⟩
 obtain⟨vcc,vt,hvh,hvs,hvc⟩:=hvecc.cells vb hvb;have haddr:lc.addr=some ⟨vb,0,none⟩:=by simp[Loc.addr,hvb]
 rw[haddr];have hwn:=hvecc.wide;have hnfl:=bU hwn;rw[dU,hm]at hnfl;have hvbound:m*2≤vcc.size:=UO (Jn _ hcapc) hvs;obtain⟨vs,hvsd⟩:∃vs,vs=vcc.toList.take (m*2):=⟨_,rfl⟩;have hvl:vs.length=m*2:=by rw[hvsd];simp;omega
 have hvg:∀(j:Nat) (v:Value),vs[j]?=some v→vcc[j]?=some v:=fun j v hj=>by
  rw[hvsd,Uy]at hj;split at hj
  ·simpa using hj
  ·cases hj
 have hvg':∀k,k<m*2→vs[k]?=vcc[k]? := fun k hk=>by rw[hvsd,Uy,if_pos hk];simp
 have hvcell:∀(j:Nat) (v:Value),vs[j]?=some v→w.cell? ⟨vb,j,none⟩=some v:=fun j v hj=>by
  rw[ji hvh];exact hvg j v hj
 have hpv:UI (fun a v=>v.oneCell'=true∧aV ⟨own,σ,ok,w⟩ a v) (ay new).flatten vs:=⟨by rw[hnfl,hvl],fun k a ha=>by
  have hk:=(gu.1 ha).1;obtain⟨v,v1,v2,v3⟩:=hvc k a ha;exact⟨v,by rw[hvg' k (by omega)];exact v1,v2,v3⟩⟩
 have one:∀{rs:List (List AV)} {us:List Value},UI (fun a v=>v.oneCell'=true∧aV ⟨own,σ,ok,w⟩ a v) rs.flatten us→∀v∈us,v.oneCell'=true:=fun hp v hv=>by
  obtain⟨k,hk⟩:=Xr hv;have hkl:=(gu.1 hk).1;rw[←hp.1]at hkl;obtain⟨v',v1,v2,_⟩:=hp.2 k _ (oh hkl);rw[hk,bL]at v1;subst v1;exact v2
 have h1v:=one hpv;have hcap:=hvec.cap;rw[dU,hn]at hcap;obtain⟨j,rfl⟩:∃j:Nat,i=j:=⟨i.toNat,by omega⟩
 rw[aci]at hin ⊢;by_cases hcap0:l.cap=0
 ·have hn0:n=0:=by omega
  subst hn0;have hr0:rows=[]:=Jm.1 hn;subst hr0;have hj0:j=0:=by omega
  subst hj0;rw[hcap0];have hcall:=EI ba l.iL 0 0 m vb lc.cap [] vs w hm0 (qj _) (by omega) hbig rfl hvl nL (.inl ⟨rfl,rfl⟩) hvcell
  exact callsIn_wide.2 (hcall.mono fun x w' hI=>Hj hS ho hl rfl hm hm0 (by decide) (qj _) (by simp[ay]) hwn ⟨rfl,by simp[ay]⟩ hpv hI)
 ·have he2:e=2:=by
   rcases he with h|⟨h,h'⟩
   ·exact h
   ·exact absurd (hvec.hole h (by simp[ay,List.isEmpty_iff.1 h'])) hcap0
  subst he2
  obtain⟨r,hr⟩:∃r,l.iL=some r:=by
   cases hb:l.iL with
   |none=>exact absurd (hvec.nil hb) hcap0
   |some r=>exact⟨r,rfl⟩
  obtain⟨cc,ct,hh,hs,hcc⟩:=hvec.cells r hr;have haddr:l.addr=some ⟨r,0,none⟩:=by simp[Loc.addr,hr]
  have:=hba hcap0;subst this;rw[haddr];have hwr:=hvec.wide;have hrfl:=bU hwr;rw[dU,hn]at hrfl;have hcbound:n*2≤cc.size:=UO (Jn _ hcap) hs;obtain⟨cs,hcsd⟩:∃cs,cs=cc.toList.take (n*2):=⟨_,rfl⟩;have hcl:cs.length=n*2:=by rw[hcsd];simp;omega
  have hcg:∀(j:Nat) (v:Value),cs[j]?=some v→cc[j]?=some v:=fun j v hj=>by
   rw[hcsd,Uy]at hj;split at hj
   ·simpa using hj
   ·cases hj
  have hcg':∀k,k<n*2→cs[k]?=cc[k]? := fun k hk=>by rw[hcsd,Uy,if_pos hk];simp
  have hpc:UI (fun a v=>v.oneCell'=true∧aV ⟨own,σ,ok,w⟩ a v) (ay rows).flatten cs:=⟨by rw[hrfl,hcl],fun k a ha=>by
   have hk:=(gu.1 ha).1;obtain⟨v,v1,v2,v3⟩:=hcc k a ha;exact⟨v,by rw[hcg' k (by omega)];exact v1,v2,v3⟩⟩
  have h1c:=one hpc
  have hne:vb≠r:=by
   intro hx;subst hx;exact hbc (hS.one b c vb ⟨l,_,hl,ho,s2,hr⟩ ⟨lc,_,hlc,hoc,t2,hvb⟩)
  have fin:∀x w',rR w (some r) 2 n m j cs vs x w'→_:=fun x w' hI=>Hj (x:=x) (w':=w') hS ho hl hn hm hm0 (by decide) hin hwr hwn hpc hpv (by rw[hr];exact hI)
  refine callsIn_wide.2 (Calls.mono ?_ fin);by_cases hroom:n+m≤l.cap
  ·by_cases hjn:j=n
   ·subst hjn
    exact P0 r j l.cap m vb lc.cap cs vs cc ct w hm0 hroom hbig hcl hvl hh hs hcg hvcell h1v
   ·exact Zn r n l.cap j m vb lc.cap cs vs cc vcc ct vt w (by omega) hm0 hroom hbig hne hcl hvl hh hs hcg hvh hvg h1c h1v
  ·by_cases hjn:j=n
   ·subst hjn
    exact EI _ (some r) j l.cap m vb lc.cap cs vs w hm0 hcap (by omega) hbig hcl hvl (run_firstCells_some w.drew 2 j ⟨r,0,none⟩ j l.cap cs hcl (fun k v hk=>by rw[eG,ji (show w.drew.heap[r]?=some (.cells cc ct (0,0))from hh),sQ];exact hcg k v hk)) (.inr ⟨r,rfl⟩) hvcell
   ·exact ad0 r n l.cap j m vb lc.cap cs vs cc vcc ct vt w (by omega) hm0 hcap (by omega) hbig hcl hvl hh hcg hvh hvg h1c h1v
end Go.Proofs.YtpccheodgonkkaaGreat
