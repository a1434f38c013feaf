import Derived.Test.YtpccheodgonkkaaGreatProg
import Derived.Shelf.SlSortCmp.NoneTotal
import Derived.Lib.Walk
import Derived.WalkKit
import Derived.Laws.Cover1
import Derived.Test.YtpccheodgonkkaaGreatC0
import Derived.Deep.LoopGhost
import Derived.StillTailTactics
import Derived.Shelf.SlicesQ.Reverse
import Derived.Lib.SlicesCompact
import Derived.Lib.SliceRun
import Derived.Laws.StructEq
import Derived.Deep.QuietTactic
import Derived.BigQuiet
set_option maxHeartbeats 0
set_option linter.unusedSimpArgs false
set_option linter.unusedVariables false
namespace Go.Proofs.YtpccheodgonkkaaGreat
open Go Go.AE Go.AE.S Go.Proofs
open Go.Shelf Go.RowKit Go.Lib Go.Sort
theorem aha(x:ByteArray)(w:World):Calls Tryz.prog 217 #[.string x] w fun e w'=>e=.returned (.bool false)∧w'=w:=by
 go_enter Tryz.func217,Tryz.ntmps217
 go_wp2
 go_ret
 exact⟨by simp,rfl⟩
theorem ag9(x:Int)(w:World):Calls Tryz.prog 218 #[.int .i64 x] w fun e w'=>e=.returned (.bool false)∧w'=w:=by
 go_enter Tryz.func218,Tryz.ntmps218
 go_wp2
 go_ret
 exact⟨by simp,rfl⟩
def YL(x y:Int):Int:=if x<y then -1 else if y<x then 1 else 0
theorem YR(x y:Int)(w:World):Calls Tryz.prog 163 #[.int .i64 x,.int .i64 y] w fun e w'=>e=.returned (.int .i64 (YL x y))∧w'=w:=by
 go_enter Tryz.func163,Tryz.ntmps163
 go_wp2_with (go_at_call 218;refine(ag9 _ _).mono ?_;rintro e w' ⟨rfl,hw⟩;rw[hw])
 all_goals (go_ret;refine⟨?_,rfl⟩;unfold YL;(repeat' split)<;>first|rfl|(exfalso;omega))
def YM(x y:ByteArray):Int:=if Op.bytesLess x.toList y.toList=true then -1 else if(!(Op.bytesLess x.toList y.toList ||x.toList == y.toList))=true then 1 else 0
theorem YS(x y:ByteArray)(w:World):Calls Tryz.prog 162 #[.string x,.string y] w fun e w'=>e=.returned (.int .i64 (YM x y))∧w'=w:=by
 go_enter Tryz.func162,Tryz.ntmps162
 go_wp2_with (go_at_call 217;refine(aha _ _).mono ?_;rintro e w' ⟨rfl,hw⟩;rw[hw])
 all_goals (go_ret;refine⟨?_,rfl⟩;unfold YM;simp_all)
theorem akN(a b:Int)(iL:Nat)(w:World)(h0:w.cell? ⟨iL,0,none⟩=some (.int .i64 a))(h1:w.cell? ⟨iL,1,none⟩=some (.int .i64 b)):Calls Tryz.prog 161 #[.slice (some ⟨iL,0,none⟩) 2 2] w fun e w'=>e=.returned (.int .i64 (if a=0 then b else a))∧w'=w:=by
 go_enter Tryz.func161,Tryz.ntmps161
 go_wp2
 go_loopg [8] 2 (fun g s8 wr=>∃i:Nat,i≤2∧2-i≤g∧s8=.int .i64 i∧wr=w∧(1≤i→a=0)∧(2≤i→b=0))
 case atStart=>exact⟨0,by omega,by omega,rfl,rfl,by omega,by omega⟩
 case round=>
  obtain⟨i,hi,hg,rfl,rfl,ha,hb⟩:=hrel;have h3:i=0∨i=1∨i=2:=by omega
  rcases h3 with rfl|rfl|rfl
  ·by_cases e:a=0
   ·go_wp2
    go_roundg 1
    case measure=>omega
    case rel=>exact⟨1,by omega,by omega,by go_num,rfl,fun _=>e,by omega⟩
   ·go_wp2
    go_ret
    all_goals first|exact⟨rfl,rfl⟩|exact⟨by simp_all,rfl⟩
  ·have e0:=ha (by omega)
   by_cases e:b=0
   ·go_wp2
    go_roundg 0
    case measure=>omega
    case rel=>exact⟨2,by omega,by omega,by go_num,rfl,fun _=>e0,fun _=>e⟩
   ·go_wp2
    go_ret
    all_goals first|exact⟨rfl,rfl⟩|exact⟨by simp_all,rfl⟩
  ·have e0:=ha (by omega)
   have e1:=hb (by omega)
   go_wp2
   go_ret
   all_goals first|exact⟨by rw[e1];rfl,rfl⟩|exact⟨by simp_all,rfl⟩
def eA(v:V2):List Value:=[.string v.name,.int .i64 v.w]
def RX(x y:V2):Int:=if YM x.name y.name=0 then YL x.w y.w else YM x.name y.name
set_option maxRecDepth 100000 in
theorem adb(x y:V2)(W:World):Calls Tryz.prog 160 #[.agg #[.string x.name,.int .i64 x.w],.agg #[.string y.name,.int .i64 y.w]] W fun e w'=>e=.returned (.int .i64 (RX x y))∧∃q os',w'=grow (W.drewN q) os':=by
 have hs:=fun w=>YS x.name y.name w
 have hi:=fun w=>YR x.w y.w w
 unfold RX;generalize YM x.name y.name=ca at hs ⊢;generalize YL x.w y.w=cb at hi ⊢
 go_enter Tryz.func160,Tryz.ntmps160
 go_wp2
 obtain⟨w0,hw0⟩:∃w0,w0=(W.alloc (Go.Obj.cells #[Value.string x.name,Value.int .i64 x.w] 103)).alloc (Go.Obj.cells #[Value.string y.name,Value.int .i64 y.w] 103):=⟨_,rfl⟩;rw[←hw0];obtain⟨w1,hw1⟩:∃w1,w1=w0.drew:=⟨_,rfl⟩;have e0:w1.cell? ⟨W.heap.size,0,none⟩=some (.string x.name):=by rw[hw1,hw0];exact World.cell?_alloc2_first _ _ _ _
 have e1:w1.cell? ⟨W.heap.size,1,none⟩=some (.int .i64 x.w):=by rw[hw1,hw0];exact World.cell?_alloc2_first _ _ _ _
 have e2:w1.cell? ⟨W.heap.size+1,0,none⟩=some (.string y.name):=by rw[hw1,hw0];exact World.cell?_alloc2_new _ _ _ _
 have e3:w1.cell? ⟨W.heap.size+1,1,none⟩=some (.int .i64 y.w):=by rw[hw1,hw0];exact World.cell?_alloc2_new _ _ _ _
 have hend:∀os,∃q os',grow w1 os=grow (W.drewN q) os':=fun os=>⟨1,#[Go.Obj.cells #[Value.string x.name,Value.int .i64 x.w] 103] ++ #[Go.Obj.cells #[Value.string y.name,Value.int .i64 y.w] 103]++os,by rw[hw1,hw0,alloc_eq_grow,alloc_eq_grow,drew_grow,drew_grow,grow_grow,grow_grow,Array.append_assoc];rfl⟩
 have HE:Aside (∀os,∃q os',grow w1 os=grow (W.drewN q) os'):=hend;clear hend;refine wp_region_still_tail 10 (by kernel_rfl) (by kernel_rfl) ?_
 change wpStill _ _ w0.drew (fun a'=>wpList _ _ _ _ a' w0.drew) _ _
 rw[←hw1];clear hw1 hw0;generalize W.heap.size=n at *;simp only[abR,List.take_zero,List.drop_succ_cons,List.drop_zero]
 still_step
 still_step
 still_step
 still_step
 still_call (hs _)
 still_step
 still_step
 still_step
 still_step
 still_call (hi _)
 refine wpStill_nil ?_;change wpList _ _ _ _ _ w1;clear e0 e1 e2 e3 hs hi
 go_wp2_with (go_at_call 161;refine(akN ca cb _ _ (World.cell?_alloc_new _ _ _ _) (World.cell?_alloc_new _ _ _ _)).mono ?_;rintro e w' ⟨rfl,hw⟩;rw[hw])
 all_goals (go_ret;exact⟨rfl,by rw[alloc_eq_grow];exact HE.out _⟩)
instance:Inhabited V2:=⟨⟨⟨#[]⟩,0⟩⟩
instance:DecidableEq V2:=fun a b=>if h:a.name=b.name∧a.w=b.w then isTrue (by cases a;cases b;simp only at h;obtain⟨rfl,rfl⟩:=h;rfl)else isFalse (fun e=>h ⟨congrArg V2.name e,congrArg V2.w e⟩)
theorem Kq(x:V2):(eA x).length=2:=rfl
theorem toList_inj{a b:ByteArray}(h:a.toList=b.toList):a=b:=by
 have:=Lib.toList_data a;have h2:=Lib.toList_data b;rw[this,h2]at h;cases a;cases b;simp only[ByteArray.mk.injEq];exact Array.ext' h
theorem amQ(x y:V2):decide (x=y)=((x.name.toList == y.name.toList) && (x.w == y.w)):=by
 by_cases h:x=y
 ·subst h;simp
 ·rw[decide_eq_false h]
  symm
  rw[Bool.and_eq_false_iff];by_cases h1:x.name=y.name
  ·refine .inr ?_
   have:x.w≠y.w:=fun e=>h (by cases x;cases y;simp only at h1 e;rw[h1,e])
   simpa using this
  ·refine .inl ?_
   have:x.name.toList≠y.name.toList:=fun e=>h1 (toList_inj e)
   simpa using this
theorem aj3(x y:V2)(w:World):(binOp .eql 103 (.agg (eA x).toArray) (.agg (eA y).toArray)).run Tryz.prog w=.ok (.bool (decide (x=y))) w:=by
 have u3:=Tryz.underlying3;have a3:=Tryz.isAgg3;have z3:=Tryz.sizeOf3;have u9:=Tryz.underlying9;have a9:=Tryz.isAgg9;have z9:=Tryz.sizeOf9;have hS:Tryz.prog.underlying 103=some (.struct (Tryz.prog.fieldsOf 103)):=by kernel_rfl
 have hp:Tryz.prog.stoodInHeld 103=false:=by kernel_rfl
 rw[amQ];simp only[eA];rw[run_eql_struct,show(10000:Nat)=9999+1 from rfl,run_equalIn_agg w 9999 103 _ _ hS hp];simp only[Program.fieldsOf,Tryz.underlying103]
 go_simp
 by_cases h1:x.name.toList=y.name.toList<;>by_cases h2:x.w=y.w<;>simp[h1,h2]
theorem apB(x y:V2)(w:World):(binOp .neq 103 (.agg (eA x).toArray) (.agg (eA y).toArray)).run Tryz.prog w=.ok (.bool (!decide (x=y))) w:=by
 have h:=aj3 x y w;rw[run_eql_struct]at h;rw[run_neq_struct];cases hr:(Op.equalIn 10000 103 (.agg (eA x).toArray) (.agg (eA y).toArray)).run Tryz.prog w with
 |ok b w'=>
  rw[hr]at h;simp only[Result.andThen_ok,Result.ok.injEq,Value.bool.injEq]at h ⊢;exact⟨by rw[h.1],h.2⟩
 |halt a w'=>rw[hr]at h;cases h
theorem aiW(x y:V2)(w:World):(Op.equalIn 10000 103 (.agg #[.string x.name,.int .i64 x.w]) (.agg #[.string y.name,.int .i64 y.w])).run Tryz.prog w=.ok (decide (x=y)) w:=by
 have h:=aj3 x y w;rw[run_eql_struct]at h
 show(Op.equalIn 10000 103 (.agg (eA x).toArray) (.agg (eA y).toArray)).run Tryz.prog w=_
 cases hr:(Op.equalIn 10000 103 (.agg (eA x).toArray) (.agg (eA y).toArray)).run Tryz.prog w with
 |ok b w'=>
  rw[hr]at h;simp only[Result.andThen_ok,Result.ok.injEq,Value.bool.injEq]at h ⊢;exact h
 |halt a w'=>rw[hr]at h;cases h
theorem Ek{W:World}{iL:Nat}{d:Array V2}(h:HoldsK eA 2 W iL 0 d){i:Nat}(hi:i<d.size):(W.cell? ⟨iL,i*2,none⟩=some (.string d[i]!.name)∧W.cell? ⟨iL,i*2+1,none⟩=some (.int .i64 d[i]!.w))∧W.frozen? ⟨iL,i*2,none⟩=false∧W.frozen? ⟨iL,i*2+1,none⟩=false:=by
 have h0:=h.cell hi (c:=0) (by decide)
 have h1:=h.cell hi (c:=1) (by decide)
 simp only[sQ,ace]at h0 h1;exact⟨⟨h0.1,h1.1⟩,h0.2,h1.2⟩
theorem XP(op:BinOp)(a b:Operand)(x y:V2)(w:World):(eqGuard op 103 a b (.agg (eA x).toArray) (.agg (eA y).toArray)).run Tryz.prog w=.ok () w:=run_eqGuard_agg w op 103 a b _ _ (by kernel_rfl)
theorem Zb(d:Array V2)(i:Nat)(x:V2)(hi:i<d.size):setMany (flatK eA 2 d) (i*2) (eA x)=flatK eA 2 (d.setIfInBounds i x):=by
 refine ext_get! (by simp) fun t ht=>?_
 have ht':t<d.size*2:=by simpa using ht
 rw[get_setMany _ _ _ t (by simpa using ht'),get_flatK _ _ _ t ht',get_flatK _ _ _ t (by simpa using ht')]
 by_cases a:t / 2=i
 ·have h1:i*2≤t∧t<i*2+(eA x).length:=by rw[Kq];omega
  rw[if_pos h1];have h2:t-i*2=t % 2:=by omega
  rw[h2,a];simp[hi]
 ·rw[if_neg (by rw[Kq];omega)]
  have:(d.setIfInBounds i x)[t / 2]! = d[t / 2]! := by
   exact getElem!_set_other d i (t / 2) _ a
  rw[this]
def D8(iL:Nat)(d:Array V2)(w w':World):Prop:=∃(q:Nat) (F:Array Value),F.size=d.size*2∧(∀t,t<F.size→F[t]!.oneCell'=true)∧(∀j x,(compactUpTo d d.size)[j]?=some x→∀c,c<2→F[j*2+c]! = (eA x)[c]!)∧w'=putRow id (Sort.ahead w q) iL 0 F
theorem Sr{d:Array V2}(t:Nat)(h:t<d.size*2):((flatK eA 2 d)[t]!).oneCell'=true:=by
 rw[get_flatK _ _ _ _ h];have h2:t % 2=0∨t % 2=1:=by omega
 rcases h2 with h|h<;>rw[h]<;>rfl
theorem YQ{iL:Nat}{d:Array V2}{w:World}(hH:HoldsK eA 2 w iL 0 d)(q:Nat)(hall:∀j,j<d.size→keeps d j=true):(compactUpTo d d.size).length=d.size∧D8 iL d w (w.drewN q):=by
 have e:compactUpTo d d.size=d.toList:=by rw[compactUpTo_all d _ hall,range_map_get]
 refine⟨by rw[e];simp,q,flatK eA 2 d,by simp,fun t ht=>Sr t (by simpa using ht),fun j x hx c hc=>?_,?_⟩
 ·rw[e]at hx
  have hj:=(gu.1 hx).1;have hj':j<d.size:=by simpa using hj
  rw[get_flatK _ _ _ _ (by omega)]
  have h1:(j*2+c) / 2=j:=by omega
  have h2:(j*2+c) % 2=c:=by omega
  rw[h1,h2]
  have h3:d[j]! = x:=by
   have:=(gu.1 hx).2;rw[getElem!_pos d j hj'];simpa using this
  rw[h3]
 ·exact(putRowK_self eA 2 (Sort.ahead w q) iL 0 d (holdsK_ahead eA 2 w q iL 0 d hH)).symm
theorem aii{w wr:World}{iL q2 n kk:Nat}{dk:Array V2}(u:V2)(hi:kk<dk.size)(hwr:wr=putRowK eA 2 (Sort.ahead w q2) iL 0 dk):((wr.drewN n).setCell ⟨iL,kk*2,none⟩ (.string u.name)).setCell ⟨iL,kk*2+1,none⟩ (.int .i64 u.w)=putRowK eA 2 (Sort.ahead w (q2+n)) iL 0 (dk.setIfInBounds kk u):=by
 subst hwr;rw[putRowK_drewN];have:=setCells_putRow (Sort.ahead w (q2+n)) iL 0 (eA u) (kk*2) (flatK eA 2 dk) (by rw[Kq,size_flatK];omega)
 rw[sQ,Zb _ _ _ hi]at this;exact this
def zsV(n:Nat):List Value:=(Builtin.zeroCells (Value.agg #[.string ⟨#[]⟩,.int .i64 0]).cells n).toList
theorem Yt(n:Nat):(zsV n).length=n*2:=by simp[zsV,Builtin.zeroCells,Value.cells]
theorem Yu(n:Nat):∀v∈zsV n,v.oneCell'=true:=by
 intro v hv;simp only[zsV,Builtin.zeroCells,Value.cells,abJ,CV]at hv;obtain⟨i,_,rfl⟩:=hv;have h2:i % 2=0∨i % 2=1:=by omega
 have e:(#[Value.string ⟨#[]⟩,Value.int .i64 0]:Array Value).size=2:=rfl;rw[e];rcases h2 with h|h<;>rw[h]<;>rfl
theorem agJ{wr:World}{iL kk n c:Nat}{dk:Array V2}(hH:HoldsK eA 2 wr iL 0 dk)(hn:0<n)(hk:kk+n=dk.size)(ty:TypeId):(Builtin.clear_ #[52] ty #[.slice (some ⟨iL,kk*2,none⟩) n c]).run Tryz.prog wr=.ok (.tuple #[]) (wr.setCells iL (kk*2) (zsV n)):=by
 obtain⟨m,rfl⟩:∃m,n=m+1:=⟨n-1,by omega⟩
 have hst:=stores_of_holds Tryz.prog hH (kk*2) (zsV (m+1)) (by rw[Yt,size_flatK];omega) (Yu _)
 rw[sQ]at hst;unfold zsV at hst ⊢;have hz:=Tryz.zeroValue103;simp[Builtin.clear_,run_underlying Tryz.underlying52,hz,hst]
theorem adi{w wr:World}{iL kk q2:Nat}{d dk:Array V2}(hI:CompInv d d.size kk dk)(hwr:wr=putRowK eA 2 (Sort.ahead w q2) iL 0 dk):D8 iL d w (wr.setCells iL (kk*2) (zsV (d.size-kk))):=by
 have hk:=hI.lt;have hs:=hI.size;refine⟨q2,setMany (flatK eA 2 dk) (kk*2) (zsV (d.size-kk)),by rw[size_setMany,size_flatK,hs],fun t ht=>?_,fun j x hx c hc=>?_,?_⟩
 ·have ht':t<dk.size*2:=by simpa using ht
  rw[get_setMany _ _ _ _ (by rw[size_flatK];exact ht')]
  split
  ·rename_i h
   rw[getElem!_pos _ _ (by omega)]
   exact Yu _ _ (UJ _)
  ·exact Sr t ht'
 ·have hj:j<kk:=by have:=(gu.1 hx).1;rw[hI.len]at this;exact this
  rw[get_setMany _ _ _ _ (by rw[size_flatK];omega),if_neg (by omega),get_flatK _ _ _ _ (by omega)]
  have h1:(j*2+c) / 2=j:=by omega
  have h2:(j*2+c) % 2=c:=by omega
  rw[h1,h2];have:=hI.low j hj;rw[hx,bL]at this;rw[this]
 ·subst hwr
  have:=setCells_putRow (Sort.ahead w q2) iL 0 (zsV (d.size-kk)) (kk*2) (flatK eA 2 dk) (by rw[Yt,size_flatK];omega)
  rw[sQ]at this;exact this
set_option maxRecDepth 1000000 in
theorem R8(iL cap:Nat)(d:Array V2)(w:World)(hH:HoldsK eA 2 w iL 0 d)(hsz:d.size<4611686018427387904)(hcap:d.size≤cap) :
  Calls Tryz.prog 164 #[.slice (some ⟨iL,0,none⟩) d.size cap] w fun e w'=>e=.returned (.slice (some ⟨iL,0,none⟩) (compactUpTo d d.size).length cap)∧D8 iL d w w':=by
 have HS:Aside (∀q,(∀j,j<d.size→keeps d j=true)→(compactUpTo d d.size).length=d.size∧D8 iL d w (w.drewN q)):=fun q h=>YQ hH q h
 by_cases h2:d.size<2
 ·have HH:Aside (HoldsK eA 2 w iL 0 d):=hH
  clear hH
  go_enter Tryz.func164,Tryz.ntmps164
  go_wp2
  go_ret
  obtain⟨e1,e2⟩:=HS.out 0 (fun j hj=>keeps_lt_one d j (by omega))
  exact⟨by rw[e1];rfl,e2⟩
 ·go_enter Tryz.func164,Tryz.ntmps164
  go_wp2
  go_loopg [3] d.size (fun g s3 wr=>∃k q:Nat,1≤k∧k≤d.size∧d.size-k≤g∧s3=.int .i64 k∧wr=w.drewN q∧∀j,j<k→keeps d j=true)
  case atStart=>exact⟨1,0,qj _,by omega,by omega,rfl,rfl,keeps_lt_one d⟩
  case round=>
   obtain⟨k,q,hk1,hk,hg,rfl,rfl,hall⟩:=hrel;by_cases hlt:k<d.size
   ·obtain⟨⟨c10,c11⟩,f10,f11⟩:=Ek hH hlt
    obtain⟨⟨c00,c01⟩,f00,f01⟩:=Ek hH (i:=k-1) (by omega)
    have A:Aside (∀j,j<k→keeps d j=true):=hall;have HH:Aside (HoldsK eA 2 w iL 0 d):=hH;clear hall hH;have hkm:IntKind.i64.wrap ((k:Int)-1)=((k-1:Nat):Int):=by rw[IntKind.wrap_i64];omega
    generalize hx:d[k]! = x at *;generalize hy:d[k-1]! = y at *;have B:Aside (d[k]! = x∧d[k-1]! = y):=⟨hx,hy⟩;clear hx hy;have ev:=aj3 x y;have gv:=fun op a b=>XP op a b x y
    have ei:=aiW x y;simp only[eA]at ev gv;by_cases hdup:x=y
    ·simp only[decide_eq_true hdup]at ev ei
     go_wp2_with fail
     go_quiet (fail)
     go_wp2
     clear c10 c11 f10 f11 c00 c01 f00 f01 ev gv ei
     go_loopg [3,5] d.size (fun g s3 s5 wr=>∃(kk k2 q2:Nat) (dk:Array V2),s3=.int .i64 kk∧s5=.int .i64 k2∧1≤k2∧k+k2≤d.size∧d.size-(k+k2)≤g∧wr=putRowK eA 2 (Sort.ahead w q2) iL 0 dk∧CompInv d (k+k2) kk dk)
     case atStart=>exact⟨k,1,q+nq,d,rfl,rfl,qj _,by omega,by omega,by rw[putRowK_self eA 2 _ iL 0 d (holdsK_ahead eA 2 w _ iL 0 d HH.out)];rfl,CompInv.start A.out (keeps_neg (by omega) (by rw[B.out.1,B.out.2];exact hdup))⟩
     case round=>
      obtain⟨kk,k2,q2,dk,rfl,rfl,h1,hle,hg2,hwr,hI⟩:=hrel;have hkk:=hI.lt;have hds:=hI.size;have hHk:HoldsK eA 2 wr iL 0 dk:=by rw[hwr];exact holdsK_putRowK eA 2 _ iL 0 d dk (holdsK_ahead eA 2 w q2 iL 0 d HH.out) hds
      have W2:Aside (wr=putRowK eA 2 (Sort.ahead w q2) iL 0 dk):=hwr;have I2:Aside (CompInv d (k+k2) kk dk):=hI;have HK2:Aside (HoldsK eA 2 wr iL 0 dk):=hHk;clear hwr;by_cases hlt2:k+k2<d.size
      ·obtain⟨⟨m0,m1⟩,fm0,fm1⟩:=Ek hHk (i:=k+k2) (by omega)
       obtain⟨⟨p0,p1⟩,fp0,fp1⟩:=Ek hHk (i:=k+k2-1) (by omega)
       rw[hI.high (k+k2) (by omega)]at m0 m1
       rw[hI.high (k+k2-1) (by omega)]at p0 p1
       obtain⟨⟨t0,t1⟩,ft0,ft1⟩:=Ek hHk (i:=kk) (by omega)
       generalize dk[kk]! = old at t0 t1;have ea:(k+k2)*2=k*2+k2*2:=by omega
       have eb:(k+k2-1)*2=k*2+(k2-1)*2:=by omega
       rw[ea]at m0 m1;rw[eb]at p0 p1;clear hHk hI;have hkm2:IntKind.i64.wrap ((k2:Int)-1)=((k2-1:Nat):Int):=by rw[IntKind.wrap_i64];omega
       generalize hu:d[k+k2]! = u at *;generalize hv:d[k+k2-1]! = v at *;have C:Aside (d[k+k2]! = u∧d[k+k2-1]! = v):=⟨hu,hv⟩;clear hu hv;have nv:=apB u v;have gv:=fun op a b=>XP op a b u v
       have ei:=aiW u v;simp only[eA]at nv gv;by_cases huv:u=v
       ·simp only[decide_eq_true huv]at nv ei
        go_wp2_with fail
        go_quiet (fail)
        go_wp2
        go_roundg (d.size-(k+(k2+1)))
        case measure=>omega
        case rel=>exact⟨kk,k2+1,q2+nq,dk,rfl,by go_num,by omega,by omega,qj _,by rw[W2.out];exact putRowK_drewN eA 2 w q2 _ iL 0 dk,I2.out.skip (keeps_neg (by omega) (by rw[C.out.1,C.out.2];exact huv))⟩
       ·simp only[decide_eq_false huv]at nv ei
        go_wp2_with fail
        go_quiet (fail)
        go_wp2
        go_roundg (d.size-(k+(k2+1)))
        case measure=>omega
        case rel=>exact⟨kk+1,k2+1,q2+nq,dk.setIfInBounds kk u,by go_num,by go_num,by omega,by omega,qj _,aii u (by omega) W2.out,by have:=I2.out.keep hlt2 (keeps_pos (by rw[C.out.1,C.out.2];exact huv));rwa [C.out.1]at this⟩
      ·have hend:k+k2=d.size:=by omega
       have hcl:=fun ty=>agJ (c:=cap-kk) hHk (kk:=kk) (n:=d.size-kk) (by omega) (by omega) ty
       clear hHk hI
       go_wp2
       go_ret
       have hI:=I2.out;rw[hend]at hI;exact⟨by rw[hI.len];rfl,adi hI W2.out⟩
    ·simp only[decide_eq_false hdup]at ev ei
     go_wp2_with fail
     go_quiet (fail)
     go_wp2
     go_roundg (d.size-(k+1))
     case measure=>omega
     case rel=>
      refine⟨k+1,q+nq,by omega,by omega,qj _,by go_num,by rfl,fun j hj=>?_⟩
      by_cases e:j=k
      ·subst e
       exact keeps_pos (by rw[B.out.1,B.out.2];exact hdup)
      ·exact A.out j (by omega)
   ·have:k=d.size:=by omega
    subst this;have HH:Aside (HoldsK eA 2 w iL 0 d):=hH;clear hH
    go_wp2
    go_ret
    obtain⟨e1,e2⟩:=HS.out q hall;exact⟨by rw[e1];rfl,e2⟩
end Go.Proofs.YtpccheodgonkkaaGreat
