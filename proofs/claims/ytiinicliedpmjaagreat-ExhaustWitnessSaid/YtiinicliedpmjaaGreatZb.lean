import Derived.Test.YtiinicliedpmjaaGreatProg
import Derived.Shelf.SlSortCmp.NoneTotal
import Derived.Lib.Walk
import Derived.WalkKit
import Derived.Laws.Cover1
import Derived.Test.YtiinicliedpmjaaGreatC2
import Derived.Deep.LoopGhost
import Derived.StillTailTactics
namespace Go.Proofs.YtiinicliedpmjaaGreat
open Go Go.AE Go.AE.S Go.Proofs
open Go.Shelf Go.RowKit Go.Lib Go.Sort
theorem isNaN_s (x:ByteArray) (w:World):Calls Tryz.prog 68 #[.string x] w fun e w'=>e=.returned (.bool false)∧w'=w:=by
  go_enter Tryz.func68,Tryz.ntmps68
  go_wp2
  go_ret
  exact ⟨by simp,rfl⟩
theorem isNaN_i (x:Int) (w:World):Calls Tryz.prog 69 #[.int .i64 x] w fun e w'=>e=.returned (.bool false)∧w'=w:=by
  go_enter Tryz.func69,Tryz.ntmps69
  go_wp2
  go_ret
  exact ⟨by simp,rfl⟩
def cmpI (x y:Int):Int:=if x<y then -1 else if y<x then 1 else 0
set_option maxHeartbeats 1000000 in
theorem compare_i (x y:Int) (w:World):Calls Tryz.prog 41 #[.int .i64 x,.int .i64 y] w fun e w'=>e=.returned (.int .i64 (cmpI x y))∧w'=w:=by
  go_enter Tryz.func41,Tryz.ntmps41
  go_wp2_with (go_at_call 69;refine (isNaN_i _ _).mono ?_;rintro e w' ⟨rfl,hw⟩;rw [hw])
  all_goals (go_ret;refine ⟨?_,rfl⟩;unfold cmpI;(repeat' split)<;>first | rfl | (exfalso;omega))
def cmpS (x y:ByteArray):Int:=if Op.bytesLess x.toList y.toList=true then -1 else if (!(Op.bytesLess x.toList y.toList || x.toList == y.toList))=true then 1 else 0
set_option maxHeartbeats 1000000 in
theorem compare_s (x y:ByteArray) (w:World):Calls Tryz.prog 40 #[.string x,.string y] w fun e w'=>e=.returned (.int .i64 (cmpS x y))∧w'=w:=by
  go_enter Tryz.func40,Tryz.ntmps40
  go_wp2_with (go_at_call 68;refine (isNaN_s _ _).mono ?_;rintro e w' ⟨rfl,hw⟩;rw [hw])
  all_goals (go_ret;refine ⟨?_,rfl⟩;unfold cmpS;simp_all)
set_option maxHeartbeats 1000000 in
theorem or_run (a b:Int) (blk:Nat) (w:World) (h0:w.cell? ⟨blk,0,none⟩=some (.int .i64 a)) (h1:w.cell? ⟨blk,1,none⟩=some (.int .i64 b)):Calls Tryz.prog 39 #[.slice (some ⟨blk,0,none⟩) 2 2] w fun e w'=>e=.returned (.int .i64 (if a=0 then b else a))∧w'=w:=by
  go_enter Tryz.func39,Tryz.ntmps39
  go_wp2
  go_loopg [8] 2 (fun g s8 wr=>∃ i:Nat,i≤2∧2-i≤g∧s8=.int .i64 i∧wr=w∧(1≤i→a=0)∧(2≤i→b=0))
  case atStart=>exact ⟨0,by omega,by omega,rfl,rfl,by omega,by omega⟩
  case round=>
    obtain ⟨i,hi,hg,rfl,rfl,ha,hb⟩:=hrel
    have h3:i=0∨i=1∨i=2:=by omega
    rcases h3 with rfl | rfl | rfl
    · by_cases e:a=0
      · go_wp2
        go_roundg 1
        case measure=>omega
        case rel=>exact ⟨1,by omega,by omega,by go_num,rfl,fun _=>e,by omega⟩
      · go_wp2
        go_ret
        all_goals first | exact ⟨rfl,rfl⟩ | exact ⟨by simp_all,rfl⟩
    · have e0:=ha (by omega)
      by_cases e:b=0
      · go_wp2
        go_roundg 0
        case measure=>omega
        case rel=>exact ⟨2,by omega,by omega,by go_num,rfl,fun _=>e0,fun _=>e⟩
      · go_wp2
        go_ret
        all_goals first | exact ⟨rfl,rfl⟩ | exact ⟨by simp_all,rfl⟩
    · have e0:=ha (by omega)
      have e1:=hb (by omega)
      go_wp2
      go_ret
      all_goals first | exact ⟨by rw [e1];rfl,rfl⟩ | exact ⟨by simp_all,rfl⟩
def encV (v:V2):List Value:=[.string v.name,.int .i64 v.w]
def cfVW (x y:V2):Int:=if cmpS x.name y.name=0 then cmpI x.w y.w else cmpS x.name y.name
set_option maxRecDepth 100000 in
set_option maxHeartbeats 4000000 in
theorem closureW (x y:V2) (W:World):Calls Tryz.prog 38 #[.agg #[.string x.name,.int .i64 x.w],.agg #[.string y.name,.int .i64 y.w]] W fun e w'=>e=.returned (.int .i64 (cfVW x y))∧∃ q os',w'=grow (W.drewN q) os':=by
  have hs:=fun w=>compare_s x.name y.name w
  have hi:=fun w=>compare_i x.w y.w w
  unfold cfVW
  generalize cmpS x.name y.name=ca at hs ⊢
  generalize cmpI x.w y.w=cb at hi ⊢
  go_enter Tryz.func38,Tryz.ntmps38
  go_wp2
  obtain ⟨w0,hw0⟩:∃ w0,w0=(W.alloc (Go.Obj.cells #[Value.string x.name,Value.int .i64 x.w] 67)).alloc (Go.Obj.cells #[Value.string y.name,Value.int .i64 y.w] 67):=⟨_,rfl⟩
  rw [← hw0]
  obtain ⟨w1,hw1⟩:∃ w1,w1=w0.drew:=⟨_,rfl⟩
  have e0:w1.cell? ⟨W.heap.size,0,none⟩=some (.string x.name):=by rw [hw1,hw0];exact World.cell?_alloc2_first _ _ _ _
  have e1:w1.cell? ⟨W.heap.size,1,none⟩=some (.int .i64 x.w):=by rw [hw1,hw0];exact World.cell?_alloc2_first _ _ _ _
  have e2:w1.cell? ⟨W.heap.size+1,0,none⟩=some (.string y.name):=by rw [hw1,hw0];exact World.cell?_alloc2_new _ _ _ _
  have e3:w1.cell? ⟨W.heap.size+1,1,none⟩=some (.int .i64 y.w):=by rw [hw1,hw0];exact World.cell?_alloc2_new _ _ _ _
  have hend:∀ os,∃ q os',grow w1 os=grow (W.drewN q) os':=fun os=>⟨1,#[Go.Obj.cells #[Value.string x.name,Value.int .i64 x.w] 67] ++ #[Go.Obj.cells #[Value.string y.name,Value.int .i64 y.w] 67]++os,by rw [hw1,hw0,alloc_eq_grow,alloc_eq_grow,drew_grow,drew_grow,grow_grow,grow_grow,Array.append_assoc];rfl⟩
  have HE:Aside (∀ os,∃ q os',grow w1 os=grow (W.drewN q) os'):=hend
  clear hend
  refine wp_region_still_tail 10 (by kernel_rfl) (by kernel_rfl) ?_
  change wpStill _ _ w0.drew (fun a'=>wpList _ _ _ _ a' w0.drew) _ _
  rw [← hw1]
  clear hw1 hw0
  generalize W.heap.size=n at *
  simp only [List.take_succ_cons,List.take_zero,List.drop_succ_cons,List.drop_zero]
  still_step
  still_step
  still_step
  still_step
  still_call (hs _)
  still_step
  still_step
  still_step
  still_step
  still_call (hi _)
  refine wpStill_nil ?_
  change wpList _ _ _ _ _ w1
  clear e0 e1 e2 e3 hs hi
  go_wp2_with (go_at_call 39;refine (or_run ca cb _ _ (World.cell?_alloc_new _ _ _ _) (World.cell?_alloc_new _ _ _ _)).mono ?_;rintro e w' ⟨rfl,hw⟩;rw [hw])
  all_goals (go_ret;exact ⟨rfl,by rw [alloc_eq_grow];exact HE.out _⟩)
end Go.Proofs.YtiinicliedpmjaaGreat
