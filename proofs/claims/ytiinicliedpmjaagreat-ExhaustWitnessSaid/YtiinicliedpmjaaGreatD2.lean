import Derived.Test.YtiinicliedpmjaaGreatD1
import Derived.Test.YtiinicliedpmjaaGreatP0
import Derived.Test.YtiinicliedpmjaaGreatC0
import Derived.Test.YtiinicliedpmjaaGreatC1
namespace Go.AE.S
open Go Go.AE
set_option linter.unusedSimpArgs false
set_option linter.unusedVariables false
variable {τ:Tm} {σ:Store} {rd:Option Nat}
structure Wd where
  w:Int
  v:Nat
def wdrow (x:Wd):List PV:=[.int .i64 x.w,.int .u64 (x.v:Int)]
def binN (o:Int) (c a b:Nat):Nat :=
  if o=5 then (a &&& b) % 2^c else
  if o=6 then (a ||| b) % 2^c else
  if o=7 then (a ^^^ b) % 2^c else
  if o=8 then (a+b) % 2^c else
  if o=9 then (a+(18446744073709551616-b)) % 2^c else
  if o=10 then (a*b) % 2^c else
  if o=11 then udivN c a b else
  if o=12 then uremN c a b else
  if o=13 then shlN c a b else
  if o=14 then lshrN c a b else
  if o=15 then ashrN c a b else
  if o=16 then flagN (decide (a % 2^c=b % 2^c)) else
  if o=17 then flagN (decide (a % 2^c<b % 2^c)) else
  flagN (decide (sgnI c a<sgnI c b))
theorem n_word (w:Int) (a:Nat) (ha:W a):R P f_eval_word [.int .i64 w,.int .u64 (a:Int)]=some (.agg (wdrow ⟨w,a % 2^cw w⟩)):=by
  have h:=n_Cut w a ha
  have hb:∀ (x y:Int),buildV [.p (.int .i64 0),.p (.int .u64 0)] [(0,1,.p (.int .i64 x)),(1,1,.p (.int .u64 y))]=some (.p (.agg [.int .i64 x,.int .u64 y])):=fun _ _=>rfl
  have h1:∀ σ:Store,allocV 2 (eagers [.p (.int .i64 0),.p (.int .u64 0)] σ)=some (.ptr σ.length 1 0 0,σ++[.pv 2 [[.int .i64 0,.int .u64 0]] false]):=fun _=>rfl
  have h2:∀ (x y x' y':Int),storeV [.pv 2 [[.int .i64 x,.int .u64 y]] false] 2 (.ptr 0 1 0 0) (.p (.agg [.int .i64 x',.int .u64 y']))=some [.pv 2 [[.int .i64 x',.int .u64 y']] false]:=fun _ _ _ _=>rfl
  have h3:∀ (x y:Int),loadV [.pv 2 [[.int .i64 x,.int .u64 y]] false] 2 true (.ptr 0 1 0 0)=some (.p (.agg [.int .i64 x,.int .u64 y])):=fun _ _=>rfl
  have h4:∀ (x y:Int),ldO 1 0 0 2 true (some (.pv 2 [[.int .i64 x,.int .u64 y]] false))=some (.p (.agg [.int .i64 x,.int .u64 y])):=fun _ _=>rfl
  have h5:∀ (x y x' y':Int),stO [.pv 2 [[.int .i64 x,.int .u64 y]] false] 0 1 0 0 [.p (.int .i64 x'),.p (.int .u64 y')] (some (.pv 2 [[.int .i64 x,.int .u64 y]] false))=some [.pv 2 [[.int .i64 x',.int .u64 y']] false]:=fun _ _ _ _=>rfl
  (rw [r_eval_word (lbY rfl),F_eval_word];simp (disch:=omega) only [eqZ,↓gc_len,seval,-List.reduceReplicate,reduceCtorEq,allP,q_bits_Cut,h,hb,wdrow,h1,h2,h3,h4,h5])
theorem eqA_wd (w w':Int) (x y:Int):eqAV false [.int,.int] (.p (.agg [.int .i64 w,.int .u64 x])) (.p (.agg [.int .i64 w,.int .u64 y]))=some (.p (.bool (decide (x=y)))):=by
  simp [eqAV,eqCells,eqLeaf]
  rw [Bool.eq_iff_iff];simp
set_option maxHeartbeats 2000000 in
theorem n_binary (o w:Int) (a b:Nat) (ha:W a) (hb0:W b):R P f_eval_binary [.int .i64 o,.int .i64 w,.int .u64 (a:Int),.int .u64 (b:Int)]=some (.int .u64 ((binN o (cw w) a b:Nat):Int)):=by
  rcases Classical.propComplete (o=5) with e5 | e5
  · have hb:binN o (cw w) a b=(a &&& b) % 2^cw w:=by unfold binN;simp only [e5,if_true,if_false]
    rw [hb]
    have k1:=n_And w a b ha hb0
    (rw [r_eval_binary (lbY rfl),F_eval_binary];simp (disch:=omega) only [eqZ,↓gc_len,seval,-List.reduceReplicate,reduceCtorEq,allP,e5,q_bits_And,k1])
  rcases Classical.propComplete (o=6) with e6 | e6
  · have hb:binN o (cw w) a b=(a ||| b) % 2^cw w:=by unfold binN;simp only [e5,e6,if_true,if_false]
    rw [hb]
    have k1:=n_Or w a b ha hb0
    (rw [r_eval_binary (lbY rfl),F_eval_binary];simp (disch:=omega) only [eqZ,↓gc_len,seval,-List.reduceReplicate,reduceCtorEq,allP,e5,e6,q_bits_Or,k1])
  rcases Classical.propComplete (o=7) with e7 | e7
  · have hb:binN o (cw w) a b=(a ^^^ b) % 2^cw w:=by unfold binN;simp only [e5,e6,e7,if_true,if_false]
    rw [hb]
    have k1:=n_Xor w a b ha hb0
    (rw [r_eval_binary (lbY rfl),F_eval_binary];simp (disch:=omega) only [eqZ,↓gc_len,seval,-List.reduceReplicate,reduceCtorEq,allP,e5,e6,e7,q_bits_Xor,k1])
  rcases Classical.propComplete (o=8) with e8 | e8
  · have hb:binN o (cw w) a b=(a+b) % 2^cw w:=by unfold binN;simp only [e5,e6,e7,e8,if_true,if_false]
    rw [hb]
    have k1:=n_Add w a b ha hb0
    (rw [r_eval_binary (lbY rfl),F_eval_binary];simp (disch:=omega) only [eqZ,↓gc_len,seval,-List.reduceReplicate,reduceCtorEq,allP,e5,e6,e7,e8,q_bits_Add,k1])
  rcases Classical.propComplete (o=9) with e9 | e9
  · have hb:binN o (cw w) a b=(a+(18446744073709551616-b)) % 2^cw w:=by unfold binN;simp only [e5,e6,e7,e8,e9,if_true,if_false]
    rw [hb]
    have k1:=n_Sub w a b ha hb0
    (rw [r_eval_binary (lbY rfl),F_eval_binary];simp (disch:=omega) only [eqZ,↓gc_len,seval,-List.reduceReplicate,reduceCtorEq,allP,e5,e6,e7,e8,e9,q_bits_Sub,k1])
  rcases Classical.propComplete (o=10) with e10 | e10
  · have hb:binN o (cw w) a b=(a*b) % 2^cw w:=by unfold binN;simp only [e5,e6,e7,e8,e9,e10,if_true,if_false]
    rw [hb]
    have k1:=n_Mul w a b ha hb0
    (rw [r_eval_binary (lbY rfl),F_eval_binary];simp (disch:=omega) only [eqZ,↓gc_len,seval,-List.reduceReplicate,reduceCtorEq,allP,e5,e6,e7,e8,e9,e10,q_bits_Mul,k1])
  rcases Classical.propComplete (o=11) with e11 | e11
  · have hb:binN o (cw w) a b=udivN (cw w) a b:=by unfold binN;simp only [e5,e6,e7,e8,e9,e10,e11,if_true,if_false]
    rw [hb]
    have k1:=n_Udiv w a b ha hb0
    (rw [r_eval_binary (lbY rfl),F_eval_binary];simp (disch:=omega) only [eqZ,↓gc_len,seval,-List.reduceReplicate,reduceCtorEq,allP,e5,e6,e7,e8,e9,e10,e11,q_bits_Udiv,k1])
  rcases Classical.propComplete (o=12) with e12 | e12
  · have hb:binN o (cw w) a b=uremN (cw w) a b:=by unfold binN;simp only [e5,e6,e7,e8,e9,e10,e11,e12,if_true,if_false]
    rw [hb]
    have k1:=n_Urem w a b ha hb0
    (rw [r_eval_binary (lbY rfl),F_eval_binary];simp (disch:=omega) only [eqZ,↓gc_len,seval,-List.reduceReplicate,reduceCtorEq,allP,e5,e6,e7,e8,e9,e10,e11,e12,q_bits_Urem,k1])
  rcases Classical.propComplete (o=13) with e13 | e13
  · have hb:binN o (cw w) a b=shlN (cw w) a b:=by unfold binN;simp only [e5,e6,e7,e8,e9,e10,e11,e12,e13,if_true,if_false]
    rw [hb]
    have k1:=n_Shl w a b ha hb0
    (rw [r_eval_binary (lbY rfl),F_eval_binary];simp (disch:=omega) only [eqZ,↓gc_len,seval,-List.reduceReplicate,reduceCtorEq,allP,e5,e6,e7,e8,e9,e10,e11,e12,e13,q_bits_Shl,k1])
  rcases Classical.propComplete (o=14) with e14 | e14
  · have hb:binN o (cw w) a b=lshrN (cw w) a b:=by unfold binN;simp only [e5,e6,e7,e8,e9,e10,e11,e12,e13,e14,if_true,if_false]
    rw [hb]
    have k1:=n_Lshr w a b ha hb0
    (rw [r_eval_binary (lbY rfl),F_eval_binary];simp (disch:=omega) only [eqZ,↓gc_len,seval,-List.reduceReplicate,reduceCtorEq,allP,e5,e6,e7,e8,e9,e10,e11,e12,e13,e14,q_bits_Lshr,k1])
  rcases Classical.propComplete (o=15) with e15 | e15
  · have hb:binN o (cw w) a b=ashrN (cw w) a b:=by unfold binN;simp only [e5,e6,e7,e8,e9,e10,e11,e12,e13,e14,e15,if_true,if_false]
    rw [hb]
    have k1:=n_Ashr w a b ha hb0
    (rw [r_eval_binary (lbY rfl),F_eval_binary];simp (disch:=omega) only [eqZ,↓gc_len,seval,-List.reduceReplicate,reduceCtorEq,allP,e5,e6,e7,e8,e9,e10,e11,e12,e13,e14,e15,q_bits_Ashr,k1])
  rcases Classical.propComplete (o=16) with e16 | e16
  · have hb:binN o (cw w) a b=flagN (decide (a % 2^(cw w)=b % 2^cw w)):=by unfold binN;simp only [e5,e6,e7,e8,e9,e10,e11,e12,e13,e14,e15,e16,if_true,if_false]
    rw [hb]
    have k1:=n_word w a ha
    have k2:=n_word w b hb0
    simp only [wdrow] at k1 k2
    have he:=fun x y=>eqA_wd w w x y
    by_cases h0:a % 2^cw w=b % 2^cw w
    · have hl:((((a % 2^cw w:Nat):Int))=((b % 2^cw w:Nat):Int))=True:=by rw [h0];simp
      rw [decide_eq_true h0]
      (rw [r_eval_binary (lbY rfl),F_eval_binary];simp (disch:=omega) only [eqZ,↓gc_len,seval,-List.reduceReplicate,reduceCtorEq,allP,e5,e6,e7,e8,e9,e10,e11,e12,e13,e14,e15,e16,q_eval_word,k1,k2,he,hl,flagN])
    · have hl:((((a % 2^cw w:Nat):Int))=((b % 2^cw w:Nat):Int))=False:=by simp only [eq_iff_iff,iff_false];omega
      rw [decide_eq_false h0]
      (rw [r_eval_binary (lbY rfl),F_eval_binary];simp (disch:=omega) only [eqZ,↓gc_len,seval,-List.reduceReplicate,reduceCtorEq,allP,e5,e6,e7,e8,e9,e10,e11,e12,e13,e14,e15,e16,q_eval_word,k1,k2,he,hl,flagN])
  rcases Classical.propComplete (o=17) with e17 | e17
  · have hb:binN o (cw w) a b=flagN (decide (a % 2^(cw w)<b % 2^cw w)):=by unfold binN;simp only [e5,e6,e7,e8,e9,e10,e11,e12,e13,e14,e15,e16,e17,if_true,if_false]
    rw [hb]
    have k1:=n_Ult w a b ha hb0
    (rw [r_eval_binary (lbY rfl),F_eval_binary];simp (disch:=omega) only [eqZ,↓gc_len,seval,-List.reduceReplicate,reduceCtorEq,allP,e5,e6,e7,e8,e9,e10,e11,e12,e13,e14,e15,e16,e17,q_bits_Ult,k1])
  have hb:binN o (cw w) a b=flagN (decide (sgnI (cw w) a<sgnI (cw w) b)):=by unfold binN;simp only [e5,e6,e7,e8,e9,e10,e11,e12,e13,e14,e15,e16,e17,if_false]
  rw [hb]
  have k1:=n_Slt w a b ha hb0
  (rw [r_eval_binary (lbY rfl),F_eval_binary];simp (disch:=omega) only [eqZ,↓gc_len,seval,-List.reduceReplicate,reduceCtorEq,allP,e5,e6,e7,e8,e9,e10,e11,e12,e13,e14,e15,e16,e17,q_bits_Slt,k1])
set_option maxHeartbeats 2000000 in
theorem r_two (o w:Int) (a b:Nat) (ha:W a) (hb0:W b):R P f_r08_two [.int .i64 o,.int .i64 w,.int .u64 (a:Int),.int .u64 (b:Int)]=some (.int .u64 ((binN o (cw w) a b:Nat):Int)):=by
  rcases Classical.propComplete (o=5) with e5 | e5
  · have hb:binN o (cw w) a b=(a &&& b) % 2^cw w:=by unfold binN;simp only [e5,if_true,if_false]
    rw [hb]
    have k1:=r_And w a b ha hb0
    (rw [r_r08_two (lbY rfl),F_r08_two];simp (disch:=omega) only [eqZ,↓gc_len,seval,-List.reduceReplicate,reduceCtorEq,allP,e5,q_r01_And,k1])
  rcases Classical.propComplete (o=6) with e6 | e6
  · have hb:binN o (cw w) a b=(a ||| b) % 2^cw w:=by unfold binN;simp only [e5,e6,if_true,if_false]
    rw [hb]
    have k1:=r_Or w a b ha hb0
    (rw [r_r08_two (lbY rfl),F_r08_two];simp (disch:=omega) only [eqZ,↓gc_len,seval,-List.reduceReplicate,reduceCtorEq,allP,e5,e6,q_r01_Or,k1])
  rcases Classical.propComplete (o=7) with e7 | e7
  · have hb:binN o (cw w) a b=(a ^^^ b) % 2^cw w:=by unfold binN;simp only [e5,e6,e7,if_true,if_false]
    rw [hb]
    have k1:=r_Xor w a b ha hb0
    (rw [r_r08_two (lbY rfl),F_r08_two];simp (disch:=omega) only [eqZ,↓gc_len,seval,-List.reduceReplicate,reduceCtorEq,allP,e5,e6,e7,q_r01_Xor,k1])
  rcases Classical.propComplete (o=8) with e8 | e8
  · have hb:binN o (cw w) a b=(a+b) % 2^cw w:=by unfold binN;simp only [e5,e6,e7,e8,if_true,if_false]
    rw [hb]
    have k1:=r_Add w a b ha hb0
    (rw [r_r08_two (lbY rfl),F_r08_two];simp (disch:=omega) only [eqZ,↓gc_len,seval,-List.reduceReplicate,reduceCtorEq,allP,e5,e6,e7,e8,q_r01_Add,k1])
  rcases Classical.propComplete (o=9) with e9 | e9
  · have hb:binN o (cw w) a b=(a+(18446744073709551616-b)) % 2^cw w:=by unfold binN;simp only [e5,e6,e7,e8,e9,if_true,if_false]
    rw [hb]
    have k1:=r_Sub w a b ha hb0
    (rw [r_r08_two (lbY rfl),F_r08_two];simp (disch:=omega) only [eqZ,↓gc_len,seval,-List.reduceReplicate,reduceCtorEq,allP,e5,e6,e7,e8,e9,q_r01_Sub,k1])
  rcases Classical.propComplete (o=10) with e10 | e10
  · have hb:binN o (cw w) a b=(a*b) % 2^cw w:=by unfold binN;simp only [e5,e6,e7,e8,e9,e10,if_true,if_false]
    rw [hb]
    have k1:=r_Mul w a b ha hb0
    (rw [r_r08_two (lbY rfl),F_r08_two];simp (disch:=omega) only [eqZ,↓gc_len,seval,-List.reduceReplicate,reduceCtorEq,allP,e5,e6,e7,e8,e9,e10,q_r01_Mul,k1])
  rcases Classical.propComplete (o=11) with e11 | e11
  · have hb:binN o (cw w) a b=udivN (cw w) a b:=by unfold binN;simp only [e5,e6,e7,e8,e9,e10,e11,if_true,if_false]
    rw [hb]
    have k1:=r_Udiv w a b ha hb0
    (rw [r_r08_two (lbY rfl),F_r08_two];simp (disch:=omega) only [eqZ,↓gc_len,seval,-List.reduceReplicate,reduceCtorEq,allP,e5,e6,e7,e8,e9,e10,e11,q_r01_Udiv,k1])
  rcases Classical.propComplete (o=12) with e12 | e12
  · have hb:binN o (cw w) a b=uremN (cw w) a b:=by unfold binN;simp only [e5,e6,e7,e8,e9,e10,e11,e12,if_true,if_false]
    rw [hb]
    have k1:=r_Urem w a b ha hb0
    (rw [r_r08_two (lbY rfl),F_r08_two];simp (disch:=omega) only [eqZ,↓gc_len,seval,-List.reduceReplicate,reduceCtorEq,allP,e5,e6,e7,e8,e9,e10,e11,e12,q_r01_Urem,k1])
  rcases Classical.propComplete (o=13) with e13 | e13
  · have hb:binN o (cw w) a b=shlN (cw w) a b:=by unfold binN;simp only [e5,e6,e7,e8,e9,e10,e11,e12,e13,if_true,if_false]
    rw [hb]
    have k1:=r_Shl w a b ha hb0
    (rw [r_r08_two (lbY rfl),F_r08_two];simp (disch:=omega) only [eqZ,↓gc_len,seval,-List.reduceReplicate,reduceCtorEq,allP,e5,e6,e7,e8,e9,e10,e11,e12,e13,q_r01_Shl,k1])
  rcases Classical.propComplete (o=14) with e14 | e14
  · have hb:binN o (cw w) a b=lshrN (cw w) a b:=by unfold binN;simp only [e5,e6,e7,e8,e9,e10,e11,e12,e13,e14,if_true,if_false]
    rw [hb]
    have k1:=r_Lshr w a b ha hb0
    (rw [r_r08_two (lbY rfl),F_r08_two];simp (disch:=omega) only [eqZ,↓gc_len,seval,-List.reduceReplicate,reduceCtorEq,allP,e5,e6,e7,e8,e9,e10,e11,e12,e13,e14,q_r01_Lshr,k1])
  rcases Classical.propComplete (o=15) with e15 | e15
  · have hb:binN o (cw w) a b=ashrN (cw w) a b:=by unfold binN;simp only [e5,e6,e7,e8,e9,e10,e11,e12,e13,e14,e15,if_true,if_false]
    rw [hb]
    have k1:=r_Ashr w a b ha hb0
    (rw [r_r08_two (lbY rfl),F_r08_two];simp (disch:=omega) only [eqZ,↓gc_len,seval,-List.reduceReplicate,reduceCtorEq,allP,e5,e6,e7,e8,e9,e10,e11,e12,e13,e14,e15,q_r01_Ashr,k1])
  rcases Classical.propComplete (o=16) with e16 | e16
  · have hb:binN o (cw w) a b=flagN (decide (a % 2^(cw w)=b % 2^cw w)):=by unfold binN;simp only [e5,e6,e7,e8,e9,e10,e11,e12,e13,e14,e15,e16,if_true,if_false]
    rw [hb]
    have k1:=r_Eq w a b ha hb0
    (rw [r_r08_two (lbY rfl),F_r08_two];simp (disch:=omega) only [eqZ,↓gc_len,seval,-List.reduceReplicate,reduceCtorEq,allP,e5,e6,e7,e8,e9,e10,e11,e12,e13,e14,e15,e16,q_r01_Eq,k1])
  rcases Classical.propComplete (o=17) with e17 | e17
  · have hb:binN o (cw w) a b=flagN (decide (a % 2^(cw w)<b % 2^cw w)):=by unfold binN;simp only [e5,e6,e7,e8,e9,e10,e11,e12,e13,e14,e15,e16,e17,if_true,if_false]
    rw [hb]
    have k1:=r_Ult w a b ha hb0
    (rw [r_r08_two (lbY rfl),F_r08_two];simp (disch:=omega) only [eqZ,↓gc_len,seval,-List.reduceReplicate,reduceCtorEq,allP,e5,e6,e7,e8,e9,e10,e11,e12,e13,e14,e15,e16,e17,q_r01_Ult,k1])
  have hb:binN o (cw w) a b=flagN (decide (sgnI (cw w) a<sgnI (cw w) b)):=by unfold binN;simp only [e5,e6,e7,e8,e9,e10,e11,e12,e13,e14,e15,e16,e17,if_false]
  rw [hb]
  have k1:=r_Slt w a b ha hb0
  (rw [r_r08_two (lbY rfl),F_r08_two];simp (disch:=omega) only [eqZ,↓gc_len,seval,-List.reduceReplicate,reduceCtorEq,allP,e5,e6,e7,e8,e9,e10,e11,e12,e13,e14,e15,e16,e17,q_r01_Slt,k1])
theorem wd_len (x:Wd):(wdrow x).length=2:=rfl
theorem wd_w {x:Wd}:loadV σ 1 false (.p (.ptr (wdrow x) 0))=some (.p (.int .i64 x.w)):=rfl
theorem wd_v {x:Wd}:loadV σ 1 false (.p (.ptr (wdrow x) 1))=some (.p (.int .u64 (x.v:Int))):=rfl
theorem wd_fw {x:Wd}:fadrV 0 (.p (.ptr (wdrow x) 0))=some (.p (.ptr (wdrow x) 0)):=rfl
theorem wd_fv {x:Wd}:fadrV 1 (.p (.ptr (wdrow x) 0))=some (.p (.ptr (wdrow x) 1)):=rfl
theorem wd_0 {x:Wd} {l:List (List PV)}:iadrSV σ 2 (.p (.lst (wdrow x :: l))) (.p (.int .i64 0))=some (.p (.ptr (wdrow x) 0)):=rfl
theorem wd_1 {x y:Wd} {l:List (List PV)}:iadrSV σ 2 (.p (.lst (wdrow x :: wdrow y :: l))) (.p (.int .i64 1))=some (.p (.ptr (wdrow y) 0)):=rfl
theorem wd_2 {x y z:Wd} {l:List (List PV)}:iadrSV σ 2 (.p (.lst (wdrow x :: wdrow y :: wdrow z :: l))) (.p (.int .i64 2))=some (.p (.ptr (wdrow z) 0)):=rfl
theorem wd_g0 {x:Wd}:(wdrow x)[0]? = some (.int .i64 x.w):=rfl
theorem wd_g1 {x:Wd}:(wdrow x)[1]? = some (.int .u64 (x.v:Int)):=rfl
def lowN (v:Nat):Int:=IntKind.i64.wrap (v:Int)
def compN (o r:Int) (v:Nat):List Wd→Nat
  | []=>v
  | [x]=>if o=3 then (18446744073709551615-x.v) % 2^cw r else if o=4 then (18446744073709551616-x.v) % 2^cw r else if o=21 then extractN (lowN v) (cw r) x.v else if o=23 then sextN (cw x.w) (cw r) x.v else x.v
  | [x,y]=>if o=20 then concatN (cw x.w) (cw y.w) x.v y.v else binN o (cw x.w) x.v y.v
  | x :: y :: z :: _=>if x.v=1 then y.v else z.v
theorem n_comp0 (r:Int) (v:Nat) (l:List Wd):R P f_eval_compute [.int .i64 2,.int .i64 r,.int .u64 (v:Int),.lst (l.map wdrow)]=some (.int .u64 (v:Int)):=by
  (rw [r_eval_compute (lbY rfl),F_eval_compute];simp (disch:=omega) only [eqZ,↓gc_len,seval,-List.reduceReplicate,reduceCtorEq,allP])
theorem low_in {v:Nat} (h:W v):lowN v≤9223372036854775807:=by
  unfold lowN
  rw [i64_eq v h]
  split<;>omega
theorem n_comp1 (o r:Int) (v:Nat) (x:Wd) (ho:o=3∨o=4∨o=21∨o=22∨o=23) (hv:W v) (hx:W x.v):R P f_eval_compute [.int .i64 o,.int .i64 r,.int .u64 (v:Int),.lst [wdrow x]]=some (.int .u64 ((compN o r v [x]:Nat):Int)):=by
  rcases ho with rfl | rfl | rfl | rfl | rfl
  · have k:=n_Not r x.v hx
    (rw [r_eval_compute (lbY rfl),F_eval_compute];simp (disch:=omega) only [eqZ,↓gc_len,seval,-List.reduceReplicate,reduceCtorEq,allP,wd_0,wd_fv,wd_v,wd_g0,wd_g1,q_bits_Not,k])
    rfl
  · have k:=n_Neg r x.v hx
    (rw [r_eval_compute (lbY rfl),F_eval_compute];simp (disch:=omega) only [eqZ,↓gc_len,seval,-List.reduceReplicate,reduceCtorEq,allP,wd_0,wd_fv,wd_v,wd_g0,wd_g1,q_bits_Neg,k])
    rfl
  · have k:=n_Extract (IntKind.i64.wrap (v:Int)) r x.v hx
    (rw [r_eval_compute (lbY rfl),F_eval_compute];simp (disch:=omega) only [eqZ,↓gc_len,seval,-List.reduceReplicate,reduceCtorEq,allP,wd_0,wd_fv,wd_v,wd_g0,wd_g1,q_bits_Extract,k])
    rfl
  · (rw [r_eval_compute (lbY rfl),F_eval_compute];simp (disch:=omega) only [eqZ,↓gc_len,seval,-List.reduceReplicate,reduceCtorEq,allP,wd_0,wd_fv,wd_v,wd_g0,wd_g1])
    rfl
  · have k:=n_Sext x.w r x.v hx
    (rw [r_eval_compute (lbY rfl),F_eval_compute];simp (disch:=omega) only [eqZ,↓gc_len,seval,-List.reduceReplicate,reduceCtorEq,allP,wd_0,wd_fw,wd_w,wd_fv,wd_v,wd_g0,wd_g1,q_bits_Sext,k])
    rfl
theorem n_comp2 (o r:Int) (v:Nat) (x y:Wd) (ho:(5≤o∧o≤18)∨o=20) (hx:W x.v) (hy:W y.v):R P f_eval_compute [.int .i64 o,.int .i64 r,.int .u64 (v:Int),.lst [wdrow x,wdrow y]]=some (.int .u64 ((compN o r v [x,y]:Nat):Int)):=by
  by_cases h20:o=20
  · subst h20
    have k:=n_Concat x.w y.w x.v y.v hx hy
    have hb:compN 20 r v [x,y]=concatN (cw x.w) (cw y.w) x.v y.v:=by simp [compN]
    rw [hb]
    (rw [r_eval_compute (lbY rfl),F_eval_compute];simp (disch:=omega) only [eqZ,↓gc_len,seval,-List.reduceReplicate,reduceCtorEq,allP,wd_0,wd_1,wd_fw,wd_w,wd_fv,wd_v,wd_g0,wd_g1,q_bits_Concat,k])
  · have hb:compN o r v [x,y]=binN o (cw x.w) x.v y.v:=by simp [compN,h20]
    rw [hb]
    have e2:(o=2)=False:=by simp;omega
    have e3:(o=3)=False:=by simp;omega
    have e4:(o=4)=False:=by simp;omega
    have e19:(o=19)=False:=by simp;omega
    have e20:(o=20)=False:=by simp;omega
    have e21:(o=21)=False:=by simp;omega
    have e22:(o=22)=False:=by simp;omega
    have e23:(o=23)=False:=by simp;omega
    have k:=n_binary o x.w x.v y.v hx hy
    (rw [r_eval_compute (lbY rfl),F_eval_compute];simp (disch:=omega) only [eqZ,↓gc_len,seval,-List.reduceReplicate,reduceCtorEq,allP,e2,e3,e4,e19,e20,e21,e22,e23,wd_0,wd_1,wd_fw,wd_w,wd_fv,wd_v,wd_g0,wd_g1,q_eval_binary,k])
theorem n_comp3 (r:Int) (v:Nat) (x y z:Wd):R P f_eval_compute [.int .i64 19,.int .i64 r,.int .u64 (v:Int),.lst [wdrow x,wdrow y,wdrow z]]=some (.int .u64 ((compN 19 r v [x,y,z]:Nat):Int)):=by
  by_cases h1:x.v=1
  · have e:((x.v:Int)=1)=True:=by simp only [eq_iff_iff,iff_true];omega
    have hb:compN 19 r v [x,y,z]=y.v:=by simp [compN,h1]
    rw [hb]
    (rw [r_eval_compute (lbY rfl),F_eval_compute];simp (disch:=omega) only [eqZ,↓gc_len,seval,-List.reduceReplicate,reduceCtorEq,allP,wd_0,wd_1,wd_2,wd_fv,wd_v,wd_g0,wd_g1,e])
  · have e:((x.v:Int)=1)=False:=by simp only [eq_iff_iff,iff_false];omega
    have hb:compN 19 r v [x,y,z]=z.v:=by simp [compN,h1]
    rw [hb]
    (rw [r_eval_compute (lbY rfl),F_eval_compute];simp (disch:=omega) only [eqZ,↓gc_len,seval,-List.reduceReplicate,reduceCtorEq,allP,wd_0,wd_1,wd_2,wd_fv,wd_v,wd_g0,wd_g1,e])
def ArOk (o:Int) (n:Nat):Prop:=(o=2∧n=0)∨((o=3∨o=4∨o=21∨o=22∨o=23)∧n=1)∨(((5≤o∧o≤18)∨o=20)∧n=2)∨(o=19∧n=3)
theorem n_compute (o r:Int) (v:Nat) (l:List Wd) (ha:ArOk o l.length) (hv:W v) (hl:∀ x∈l,W x.v):R P f_eval_compute [.int .i64 o,.int .i64 r,.int .u64 (v:Int),.lst (l.map wdrow)]=some (.int .u64 ((compN o r v l:Nat):Int)):=by
  rcases ha with ⟨rfl,h⟩ | ⟨ho,h⟩ | ⟨ho,h⟩ | ⟨rfl,h⟩
  · match l,h with
    | [],_=>exact n_comp0 r v []
  · match l,h with
    | [x],_=>exact n_comp1 o r v x ho hv (hl x (by simp))
  · match l,h with
    | [x,y],_=>exact n_comp2 o r v x y ho (hl x (by simp)) (hl y (by simp))
  · match l,h with
    | [x,y,z],_=>exact n_comp3 r v x y z
theorem ashr_lt {c:Nat} (h:1≤c∧c≤64) (a b:Nat):ashrN c a b<2^c:=by
  have hp:0<2^c:=Nat.pow_pos (by omega)
  have hm:a % 2^c<2^c:=Nat.mod_lt _ hp
  unfold ashrN lshrN
  split
  · split
    · exact hp
    · exact Nat.lt_of_le_of_lt (Nat.div_le_self _ _) hm
  · split
    · omega
    · rename_i hn
      have hs:=pow_sub_mul (c:=c) (n:=b % 2^c) (by omega)
      have hr:a % 2^c / 2^(b % 2^c)<2^(c-b % 2^c):=by rw [Nat.div_lt_iff_lt_mul (Nat.pow_pos (by omega)),hs];exact hm
      have hle:2^(c-b % 2^c)≤2^c:=Nat.pow_le_pow_right (by omega) (by omega)
      omega
theorem flag_lt (b:Bool):flagN b<2:=by unfold flagN;split<;>omega
theorem bin_lt {c:Nat} (h:1≤c∧c≤64) (o:Int) (a b:Nat):binN o c a b<2^c:=by
  have hp:0<2^c:=Nat.pow_pos (by omega)
  have h2:2≤2^c:=by have:=Nat.pow_le_pow_right (show 0<2 by omega) h.1;simpa using this
  have hm:=fun x=>Nat.mod_lt x hp
  have fl:=fun b=>Nat.lt_of_lt_of_le (flag_lt b) h2
  unfold binN
  by_cases h5:o=5
  · rw [if_pos h5];exact hm _
  rw [if_neg h5]
  by_cases h6:o=6
  · rw [if_pos h6];exact hm _
  rw [if_neg h6]
  by_cases h7:o=7
  · rw [if_pos h7];exact hm _
  rw [if_neg h7]
  by_cases h8:o=8
  · rw [if_pos h8];exact hm _
  rw [if_neg h8]
  by_cases h9:o=9
  · rw [if_pos h9];exact hm _
  rw [if_neg h9]
  by_cases h10:o=10
  · rw [if_pos h10];exact hm _
  rw [if_neg h10]
  by_cases h11:o=11
  · rw [if_pos h11]
    unfold udivN
    split
    · omega
    · exact Nat.lt_of_le_of_lt (Nat.div_le_self _ _) (hm _)
  rw [if_neg h11]
  by_cases h12:o=12
  · rw [if_pos h12]
    unfold uremN
    split
    · exact hm _
    · exact Nat.lt_of_le_of_lt (Nat.mod_le _ _) (hm _)
  rw [if_neg h12]
  by_cases h13:o=13
  · rw [if_pos h13]
    unfold shlN
    split
    · exact hp
    · exact hm _
  rw [if_neg h13]
  by_cases h14:o=14
  · rw [if_pos h14]
    unfold lshrN
    split
    · exact hp
    · exact Nat.lt_of_le_of_lt (Nat.div_le_self _ _) (hm _)
  rw [if_neg h14]
  by_cases h15:o=15
  · rw [if_pos h15];exact ashr_lt h _ _
  rw [if_neg h15]
  by_cases h16:o=16
  · rw [if_pos h16];exact fl _
  rw [if_neg h16]
  by_cases h17:o=17
  · rw [if_pos h17];exact fl _
  rw [if_neg h17]
  exact fl _
def oneN (o r:Int) (v:Nat) (w:Int) (a:Nat):Nat:=if o=3 then (18446744073709551615-a) % 2^cw w else if o=4 then (18446744073709551616-a) % 2^cw w else if o=21 then extractN (lowN v) (cw r) a else if o=23 then sextN (cw w) (cw r) a else a
theorem r_one (o r:Int) (v:Nat) (w:Int) (a:Nat) (hv:W v) (ha:W a):R P f_r08_one [.int .i64 o,.int .i64 r,.int .u64 (v:Int),.int .i64 w,.int .u64 (a:Int)]=some (.int .u64 ((oneN o r v w a:Nat):Int)):=by
  unfold oneN
  by_cases h3:o=3
  · subst h3
    have k:=r_Not w a ha
    rw [← not_eq (cw_in w).2 ha] at k
    rw [if_pos rfl]
    (rw [r_r08_one (lbY rfl),F_r08_one];simp (disch:=omega) only [eqZ,↓gc_len,seval,-List.reduceReplicate,reduceCtorEq,allP,q_r01_Not,k])
  rw [if_neg h3]
  by_cases h4:o=4
  · subst h4
    have k:=r_Neg w a ha
    rw [if_pos rfl]
    (rw [r_r08_one (lbY rfl),F_r08_one];simp (disch:=omega) only [eqZ,↓gc_len,seval,-List.reduceReplicate,reduceCtorEq,allP,q_r01_Neg,k])
  rw [if_neg h4]
  by_cases h21:o=21
  · subst h21
    have k:=r_Extract (IntKind.i64.wrap (v:Int)) r a ha (low_in hv)
    rw [if_pos rfl]
    (rw [r_r08_one (lbY rfl),F_r08_one];simp (disch:=omega) only [eqZ,↓gc_len,seval,-List.reduceReplicate,reduceCtorEq,allP,q_r01_Extract,k])
    rfl
  rw [if_neg h21]
  by_cases h23:o=23
  · subst h23
    have k:=r_Sext w r a ha
    rw [if_pos rfl]
    (rw [r_r08_one (lbY rfl),F_r08_one];simp (disch:=omega) only [eqZ,↓gc_len,seval,-List.reduceReplicate,reduceCtorEq,allP,q_r01_Sext,k])
  rw [if_neg h23]
  have e3:(o=3)=False:=by simp [h3]
  have e4:(o=4)=False:=by simp [h4]
  have e21:(o=21)=False:=by simp [h21]
  have e23:(o=23)=False:=by simp [h23]
  (rw [r_r08_one (lbY rfl),F_r08_one];simp (disch:=omega) only [eqZ,↓gc_len,seval,-List.reduceReplicate,reduceCtorEq,allP,e3,e4,e21,e23])
def refN (o r:Int) (v:Nat):List Wd→Nat
  | []=>v
  | [x]=>oneN o r v x.w (x.v % 2^cw x.w)
  | [x,y]=>if o=20 then concatN (cw x.w) (cw y.w) (x.v % 2^cw x.w) (y.v % 2^cw y.w) else binN o (cw x.w) (x.v % 2^cw x.w) (y.v % 2^cw y.w)
  | x :: y :: z :: _=>if x.v % 2^cw x.w=1 then y.v % 2^cw y.w else z.v % 2^cw z.w
def urow (n:Nat):List PV:=[.int .u64 (n:Int)]
def ctW (x:Wd):Nat:=x.v % 2^cw x.w
abbrev sU (s:List Nat):Store:=[.pv (esOf 1 s) (s.map urow) false]
abbrev e_rv (o r:Int) (v:Nat) (l:List Wd) (s:List Nat) (i:Int):List (Nat×AV):=[(0,.p (.int .i64 o)),(1,.p (.int .i64 r)),(2,.p (.int .u64 (v:Int))),(3,.p (.lst (l.map wdrow))),(9,.sl 0 s.length),(10,.p (.int .i64 i))]
theorem bsl_u {n:Int}:bsliceV σ 1 1 (fillP (List.replicate 1 [.p (.int .u64 0)]).flatten [(0,1,.p (.int .u64 n))])=some (.sl σ.length 1,σ++[.pv 1 [[.int .u64 n]] false]):=rfl
theorem l0_rvalue (o r:Int) (v:Nat) (l:List Wd) (hl:∀ x∈l,W x.v) (hn:l.length≤1000000):loopAt P L0_r08_value (e_rv o r v l [] 0) (sU []) 90 none=back P [0,1,2,3,9,10] B0_r08_value 1 (exec P B0_r08_value ⟨tm (e_rv o r v l (l.map ctW) l.length),sU (l.map ctW),90,none⟩):=by
  obtain ⟨_,h⟩:=loop_run (P:=P) (nt:=90) (lv:=[0,1,2,3,9,10]) (b:=B0_r08_value) (rd:=none) (as:=l) (fun i (s:List Nat)=>e_rv o r v l s i) sU (fun _ s a=>s++[ctW a]) (fun i s=>s.length=i)
    (fun i a s ha hi hs=>by
      have hlt:((i:Int)<l.length)=True:=by simpa using hi
      have hx:=fun σ=>v_iadr (k:=.i64) (es:=2) (σ:=σ) (map_get (f:=wdrow) ha) (wd_len a)
      have hap:=v_append (σ:=[.pv (esOf 1 s) (s.map urow) false,.pv 1 [[.int .u64 (ctW a:Int)]] false]) (b:=0) (n:=s.length) (e:=esOf 1 s) (es:=1) (bytes:=8) (rows:=s.map urow) (new:=[[.int .u64 (ctW a:Int)]]) rfl (by simp) (esOf_or _ _ _) (by simp only [List.length_cons,List.length_nil];omega)
      have hc:R P f_r01_Cut [.int .i64 a.w,.int .u64 (a.v:Int)]=some (.int .u64 (ctW a:Int)):=n_rCut a.w a.v (hl a (List.mem_of_getElem? ha))
      refine ⟨by simp [hs],?_⟩
      simp only [B0_r08_value]
      simp (disch:=omega) only [eqZ,↓gc_len,seval,-List.reduceReplicate,reduceCtorEq,allP,hlt,hx,wd_fw,wd_w,wd_fv,wd_v,wd_g0,wd_g1,q_r01_Cut,hc,bsl_u,hap,List.length_map,List.length_append,List.map_append,esOf_snoc,urow,e_rv,sU]) (fun i s=>rfl) [] rfl _ (fold_snoc ctW l 0 [])
  exact h
theorem ia_u {s:List Nat} {i x:Nat} (h:s[i]? = some x):iadrSV [.pv (esOf 1 s) (s.map urow) false] 1 (.sl 0 s.length) (.p (.int .i64 i))=some (.ptr 0 s.length i 0):=by
  have hi:=(List.getElem?_eq_some_iff.1 h).1
  have he:esOf 1 s=1:=by cases s with | nil=>simp at hi | cons=>rfl
  unfold iadrSV
  simp [natOf,svec,Obj.dims,hi,he]
theorem ld_u {s:List Nat} {i x:Nat} (h:s[i]? = some x):loadV [.pv (esOf 1 s) (s.map urow) false] 1 false (.ptr 0 s.length i 0)=some (.p (.int .u64 (x:Int))):=by
  simp only [loadV,List.getElem?_cons_zero,List.length_map,if_true,List.getElem?_map,h]
  rfl
theorem ct_W (x:Wd):W (ctW x):=cut_lt (cw_in x.w).2 x.v
theorem r_value (o r:Int) (v:Nat) (l:List Wd) (h3:l.length≤3) (hv:W v) (hl:∀ x∈l,W x.v):R P f_r08_value [.int .i64 o,.int .i64 r,.int .u64 (v:Int),.lst (l.map wdrow)]=some (.int .u64 ((refN o r v l:Nat):Int)):=by
  have hloop:=l0_rvalue o r v l hl (by omega)
  have hn:lenSV (sU (l.map ctW)) (.sl 0 (l.map ctW).length)=some (.p (.int .i64 (l.map ctW).length)):=by
    simp [lenSV,lenS,slen,Obj.len]
  have ia:=fun (i x:Nat) (h:(l.map ctW)[i]? = some x)=>ia_u h
  have ld:=fun (i x:Nat) (h:(l.map ctW)[i]? = some x)=>ld_u h
  match l,h3 with
  | [],_=>
    have h':loopAt P L0_r08_value [(0,.p (.int .i64 o)),(1,.p (.int .i64 r)),(2,.p (.int .u64 (v:Int))),(3,.p (.lst [])),(9,.sl 0 0),(10,.p (.int .i64 0))] [.pv 0 [] false] 90 none=back P [0,1,2,3,9,10] B0_r08_value 1 (exec P B0_r08_value ⟨tm [(0,.p (.int .i64 o)),(1,.p (.int .i64 r)),(2,.p (.int .u64 (v:Int))),(3,.p (.lst [])),(9,.sl 0 0),(10,.p (.int .i64 0))],[.pv 0 [] false],90,none⟩):=hloop
    have hn':lenSV [.pv 0 [] false] (.sl 0 0)=some (.p (.int .i64 0)):=rfl
    have hn0:lenSV [.pv 0 [] false] (.p (.lst []))=some (.p (.int .i64 0)):=rfl
    (rw [r_r08_value (lbY rfl),F_r08_value];simp (disch:=omega) only [eqZ,↓gc_len,seval,-List.reduceReplicate,reduceCtorEq,allP,k0_r08_value,h',B0_r08_value,Int.lt_irrefl,List.length_nil,hn',hn0])
    rfl
  | [x],_=>
    have hk:=r_one o r v x.w (ctW x) hv (ct_W x)
    have h':loopAt P L0_r08_value [(0,.p (.int .i64 o)),(1,.p (.int .i64 r)),(2,.p (.int .u64 (v:Int))),(3,.p (.lst [wdrow x])),(9,.sl 0 0),(10,.p (.int .i64 0))] [.pv 0 [] false] 90 none=back P [0,1,2,3,9,10] B0_r08_value 1 (exec P B0_r08_value ⟨tm [(0,.p (.int .i64 o)),(1,.p (.int .i64 r)),(2,.p (.int .u64 (v:Int))),(3,.p (.lst [wdrow x])),(9,.sl 0 1),(10,.p (.int .i64 1))],[.pv 1 [urow (ctW x)] false],90,none⟩):=hloop
    have hn':lenSV [.pv 1 [urow (ctW x)] false] (.sl 0 1)=some (.p (.int .i64 1)):=rfl
    have i0:iadrSV [.pv 1 [urow (ctW x)] false] 1 (.sl 0 1) (.p (.int .i64 0))=some (.ptr 0 1 0 0):=rfl
    have l0:ldO 1 0 0 1 false (some (.pv 1 [urow (ctW x)] false))=some (.p (.int .u64 (ctW x:Int))):=rfl
    have l0':loadV [.pv 1 [urow (ctW x)] false] 1 false (.ptr 0 1 0 0)=some (.p (.int .u64 (ctW x:Int))):=rfl
    (rw [r_r08_value (lbY rfl),F_r08_value];simp (disch:=omega) only [eqZ,↓gc_len,seval,-List.reduceReplicate,reduceCtorEq,allP,k0_r08_value,h',B0_r08_value,Int.lt_irrefl,List.length_cons,List.length_nil,hn',i0,l0,l0',wd_0,wd_fw,wd_w,wd_g0,q_r08_one,hk])
    rfl
  | [x,y],_=>
    have hn':lenSV [.pv 1 [urow (ctW x),urow (ctW y)] false] (.sl 0 2)=some (.p (.int .i64 2)):=rfl
    have h':loopAt P L0_r08_value [(0,.p (.int .i64 o)),(1,.p (.int .i64 r)),(2,.p (.int .u64 (v:Int))),(3,.p (.lst [wdrow x,wdrow y])),(9,.sl 0 0),(10,.p (.int .i64 0))] [.pv 0 [] false] 90 none=back P [0,1,2,3,9,10] B0_r08_value 1 (exec P B0_r08_value ⟨tm [(0,.p (.int .i64 o)),(1,.p (.int .i64 r)),(2,.p (.int .u64 (v:Int))),(3,.p (.lst [wdrow x,wdrow y])),(9,.sl 0 2),(10,.p (.int .i64 2))],[.pv 1 [urow (ctW x),urow (ctW y)] false],90,none⟩):=hloop
    have i0:iadrSV [.pv 1 [urow (ctW x),urow (ctW y)] false] 1 (.sl 0 2) (.p (.int .i64 0))=some (.ptr 0 2 0 0):=rfl
    have i1:iadrSV [.pv 1 [urow (ctW x),urow (ctW y)] false] 1 (.sl 0 2) (.p (.int .i64 1))=some (.ptr 0 2 1 0):=rfl
    have l0:ldO 2 0 0 1 false (some (.pv 1 [urow (ctW x),urow (ctW y)] false))=some (.p (.int .u64 (ctW x:Int))):=rfl
    have l1:ldO 2 1 0 1 false (some (.pv 1 [urow (ctW x),urow (ctW y)] false))=some (.p (.int .u64 (ctW y:Int))):=rfl
    have l0':loadV [.pv 1 [urow (ctW x),urow (ctW y)] false] 1 false (.ptr 0 2 0 0)=some (.p (.int .u64 (ctW x:Int))):=rfl
    have l1':loadV [.pv 1 [urow (ctW x),urow (ctW y)] false] 1 false (.ptr 0 2 1 0)=some (.p (.int .u64 (ctW y:Int))):=rfl
    by_cases h20:o=20
    · subst h20
      have hk:=r_Concat x.w y.w (ctW x) (ctW y) (ct_W x) (ct_W y)
      have hb:refN 20 r v [x,y]=concatN (cw x.w) (cw y.w) (ctW x) (ctW y):=by simp [refN,ctW]
      rw [hb]
      (rw [r_r08_value (lbY rfl),F_r08_value];simp (disch:=omega) only [eqZ,↓gc_len,seval,-List.reduceReplicate,reduceCtorEq,allP,k0_r08_value,h',B0_r08_value,Int.lt_irrefl,List.length_cons,List.length_nil,hn',i0,i1,l0,l1,l0',l1',wd_0,wd_1,wd_fw,wd_w,wd_g0,q_r01_Concat,hk])
    · have e20:(o=20)=False:=by simp [h20]
      have hk:=r_two o x.w (ctW x) (ctW y) (ct_W x) (ct_W y)
      have hb:refN o r v [x,y]=binN o (cw x.w) (ctW x) (ctW y):=by simp [refN,h20,ctW]
      rw [hb]
      (rw [r_r08_value (lbY rfl),F_r08_value];simp (disch:=omega) only [eqZ,↓gc_len,seval,-List.reduceReplicate,reduceCtorEq,allP,k0_r08_value,h',B0_r08_value,Int.lt_irrefl,List.length_cons,List.length_nil,hn',e20,i0,i1,l0,l1,l0',l1',wd_0,wd_1,wd_fw,wd_w,wd_g0,q_r08_two,hk])
  | [x,y,z],_=>
    have hn':lenSV [.pv 1 [urow (ctW x),urow (ctW y),urow (ctW z)] false] (.sl 0 3)=some (.p (.int .i64 3)):=rfl
    have h':loopAt P L0_r08_value [(0,.p (.int .i64 o)),(1,.p (.int .i64 r)),(2,.p (.int .u64 (v:Int))),(3,.p (.lst [wdrow x,wdrow y,wdrow z])),(9,.sl 0 0),(10,.p (.int .i64 0))] [.pv 0 [] false] 90 none=back P [0,1,2,3,9,10] B0_r08_value 1 (exec P B0_r08_value ⟨tm [(0,.p (.int .i64 o)),(1,.p (.int .i64 r)),(2,.p (.int .u64 (v:Int))),(3,.p (.lst [wdrow x,wdrow y,wdrow z])),(9,.sl 0 3),(10,.p (.int .i64 3))],[.pv 1 [urow (ctW x),urow (ctW y),urow (ctW z)] false],90,none⟩):=hloop
    have i0:iadrSV [.pv 1 [urow (ctW x),urow (ctW y),urow (ctW z)] false] 1 (.sl 0 3) (.p (.int .i64 0))=some (.ptr 0 3 0 0):=rfl
    have i1:iadrSV [.pv 1 [urow (ctW x),urow (ctW y),urow (ctW z)] false] 1 (.sl 0 3) (.p (.int .i64 1))=some (.ptr 0 3 1 0):=rfl
    have i2:iadrSV [.pv 1 [urow (ctW x),urow (ctW y),urow (ctW z)] false] 1 (.sl 0 3) (.p (.int .i64 2))=some (.ptr 0 3 2 0):=rfl
    have l0':loadV [.pv 1 [urow (ctW x),urow (ctW y),urow (ctW z)] false] 1 false (.ptr 0 3 0 0)=some (.p (.int .u64 (ctW x:Int))):=rfl
    have l1':loadV [.pv 1 [urow (ctW x),urow (ctW y),urow (ctW z)] false] 1 false (.ptr 0 3 1 0)=some (.p (.int .u64 (ctW y:Int))):=rfl
    have l2':loadV [.pv 1 [urow (ctW x),urow (ctW y),urow (ctW z)] false] 1 false (.ptr 0 3 2 0)=some (.p (.int .u64 (ctW z:Int))):=rfl
    have l0:ldO 3 0 0 1 false (some (.pv 1 [urow (ctW x),urow (ctW y),urow (ctW z)] false))=some (.p (.int .u64 (ctW x:Int))):=rfl
    have l1:ldO 3 1 0 1 false (some (.pv 1 [urow (ctW x),urow (ctW y),urow (ctW z)] false))=some (.p (.int .u64 (ctW y:Int))):=rfl
    have l2:ldO 3 2 0 1 false (some (.pv 1 [urow (ctW x),urow (ctW y),urow (ctW z)] false))=some (.p (.int .u64 (ctW z:Int))):=rfl
    by_cases h1:ctW x=1
    · have e:((ctW x:Int)=1)=True:=by simp only [eq_iff_iff,iff_true];omega
      have hb:refN o r v [x,y,z]=ctW y:=by have h1':x.v % 2^cw x.w=1:=h1;simp only [refN];rw [if_pos h1'];rfl
      rw [hb]
      (rw [r_r08_value (lbY rfl),F_r08_value];simp (disch:=omega) only [eqZ,↓gc_len,seval,-List.reduceReplicate,reduceCtorEq,allP,k0_r08_value,h',B0_r08_value,Int.lt_irrefl,List.length_cons,List.length_nil,hn',i0,i1,i2,l0,l1,l2,l0',l1',l2',e])
    · have e:((ctW x:Int)=1)=False:=by simp only [eq_iff_iff,iff_false];omega
      have hb:refN o r v [x,y,z]=ctW z:=by have h1':¬ x.v % 2^cw x.w=1:=h1;simp only [refN];rw [if_neg h1'];rfl
      rw [hb]
      (rw [r_r08_value (lbY rfl),F_r08_value];simp (disch:=omega) only [eqZ,↓gc_len,seval,-List.reduceReplicate,reduceCtorEq,allP,k0_r08_value,h',B0_r08_value,Int.lt_irrefl,List.length_cons,List.length_nil,hn',i0,i1,i2,l0,l1,l2,l0',l1',l2',e])
end Go.AE.S
namespace Go.AE
namespace Term
mutual
def valT (E:ByteArray→Nat):Term→Nat
  | .mk o w v s as=>if o=1 then E s % 2^S.cw w else S.compN o w v.toNat (valsT E as)
def valsT (E:ByteArray→Nat):List Term→List S.Wd
  | []=>[]
  | a :: r=>⟨a.w,valT E a⟩ :: valsT E r
end
theorem valT_eq (E:ByteArray→Nat) (t:Term):t.valT E=if t.op=1 then E t.name % 2^S.cw t.w else S.compN t.op t.w t.v.toNat (valsT E t.args):=by
  cases t;rw [valT];rfl
theorem valsT_map (E:ByteArray→Nat):∀ l:List Term,valsT E l=l.map fun a=>⟨a.w,a.valT E⟩
  | []=>by rw [valsT];rfl
  | a :: r=>by rw [valsT,valsT_map E r];rfl
end Term
namespace S
open Go Go.AE
set_option linter.unusedSimpArgs false
set_option linter.unusedVariables false
structure NodeOk (t:Term):Prop where
  ar:(t.args.length:Int)=arity t.op∧0≤arity t.op∧¬ (24≤t.op∧t.op≤26)
  w:1≤t.w
  wd:widthW t.op t.w t.v (t.args.map Term.w)=(t.w,0)
theorem nodeok8 {t:Term} (h:nodeN t=0):NodeOk t:=by
  unfold nodeN at h
  split at h
  · cases h
  rename_i h1
  split at h
  · cases h
  rename_i h2
  split at h
  · cases h
  rename_i h3
  split at h
  · cases h
  split at h
  · cases h
  split at h
  · cases h
  split at h
  · cases h
  rename_i h7
  split at h
  · cases h
  rename_i h8
  split at h
  · cases h
  rename_i h9
  refine ⟨⟨Classical.not_not.1 h3,by omega,h2⟩,by omega,?_⟩
  exact Prod.ext (Classical.not_not.1 h9) (Classical.not_not.1 h8)
theorem ar_ok {o:Int} {n:Nat} (h:(n:Int)=arity o∧0≤arity o∧¬ (24≤o∧o≤26)) (h1:o≠1):ArOk o n:=by
  obtain ⟨ha,hn,hp⟩:=h
  unfold arity at ha hn
  unfold ArOk
  split at ha
  · omega
  · split at ha
    · omega
    · split at ha
      · omega
      · split at ha
        · omega
        · rename_i a b c d
          rw [if_neg a,if_neg b,if_neg c,if_neg d] at hn
          omega
def InW (l:List Wd):Prop:=∀ x∈l,x.v<2^cw x.w
theorem ct_in {x:Wd} (h:x.v<2^cw x.w):ctW x=x.v:=Nat.mod_eq_of_lt h
theorem ref_comp {o r:Int} {v:Nat} {l:List Wd} (hl:InW l) (h34:∀ x,l=[x]→o=3∨o=4→cw r=cw x.w):refN o r v l=compN o r v l:=by
  match l,hl,h34 with
  | [],_,_=>rfl
  | [x],hl,h34=>
    have hx:x.v % 2^cw x.w=x.v:=ct_in (hl x (by simp))
    simp only [refN,compN,oneN,hx]
    by_cases h3:o=3
    · rw [if_pos h3,if_pos h3,h34 x rfl (.inl h3)]
    · rw [if_neg h3,if_neg h3]
      by_cases h4:o=4
      · rw [if_pos h4,if_pos h4,h34 x rfl (.inr h4)]
      · rw [if_neg h4,if_neg h4]
  | [x,y],hl,_=>
    have hx:x.v % 2^cw x.w=x.v:=ct_in (hl x (by simp))
    have hy:y.v % 2^cw y.w=y.v:=ct_in (hl y (by simp))
    simp only [refN,compN,hx,hy]
  | x :: y :: z :: r',hl,_=>
    have hx:x.v % 2^cw x.w=x.v:=ct_in (hl x (by simp))
    have hy:y.v % 2^cw y.w=y.v:=ct_in (hl y (by simp))
    have hz:z.v % 2^cw z.w=z.v:=ct_in (hl z (by simp))
    simp only [refN,compN,hx,hy,hz]
theorem cw_le {a b:Int} (h:a≤b):cw a≤cw b:=by unfold cw clampW;omega
theorem pow_mono {a b:Nat} (h:a≤b):2^a≤2^b:=Nat.pow_le_pow_right (by omega) h
theorem comp_lt {o w v:Int} {l:List Wd} (hw1:1≤w) (ho1:o≠1) (hv:0≤v) (har:ArOk o l.length) (hwd:widthW o w v (l.map (·.w))=(w,0)) (hl:InW l):compN o w v.toNat l<2^cw w∧(∀ x,l=[x]→o=3∨o=4→cw w=cw x.w):=by
  have hm:=fun y=>Nat.mod_lt y (show 0<2^cw w from Nat.pow_pos (by omega))
  rcases har with ⟨rfl,h⟩ | ⟨ho,h⟩ | ⟨ho,h⟩ | ⟨rfl,h⟩
  · have hl0:l=[]:=List.length_eq_zero_iff.1 h
    subst hl0
    refine ⟨?_,fun x h=>by cases h⟩
    have e:widthW 2 w v []=leafW 2 w v:=rfl
    rw [List.map_nil,e] at hwd
    unfold leafW at hwd
    split at hwd
    · have:=congrArg Prod.snd hwd;simp at this
    · rename_i hc
      have hcw:cw w=w.toNat:=by unfold cw clampW;omega
      show v.toNat<2^cw w
      rw [hcw]
      have h2:v<(2:Int)^w.toNat:=by
        rcases Int.lt_or_le v ((2:Int)^w.toNat) with h | h
        · exact h
        · exact absurd (.inr ⟨rfl,by omega,h⟩) hc
      have h3:((2:Int)^w.toNat)=((2^w.toNat:Nat):Int):=by simp
      omega
  · match l,h,hl with
    | [x],_,hl=>
      have hx:=hl x (by simp)
      have hok:∀ f:Int,o=3∨o=4→widthW o w v [f]=if okW f=false then (0,3) else (f,0):=by
        intro f h
        rcases h with rfl | rfl<;>simp [widthW,arity]
      have hsz:∀ f:Int,o=21∨o=22∨o=23→widthW o w v [f]=if okW f=false then (0,3) else sizeW o w v f:=by
        intro f h
        rcases h with rfl | rfl | rfl<;>simp [widthW,arity]
      rw [List.map_cons,List.map_nil] at hwd
      have h34:o=3∨o=4→cw w=cw x.w:=by
        intro h
        rw [hok _ h] at hwd
        split at hwd
        · have:=congrArg Prod.snd hwd;simp at this
        · have:=congrArg Prod.fst hwd;simp at this;rw [this]
      refine ⟨?_,fun y hy h=>by cases hy;exact h34 h⟩
      simp only [compN]
      by_cases h3:o=3
      · rw [if_pos h3];exact hm _
      rw [if_neg h3]
      by_cases h4:o=4
      · rw [if_pos h4];exact hm _
      rw [if_neg h4]
      by_cases h21:o=21
      · rw [if_pos h21]
        unfold extractN
        split
        · exact Nat.pow_pos (by omega)
        · exact hm _
      rw [if_neg h21]
      by_cases h23:o=23
      · rw [if_pos h23]
        unfold sextN
        exact hm _
      rw [if_neg h23]
      have h22:o=22:=by omega
      rw [hsz _ (.inr (.inl h22))] at hwd
      split at hwd
      · have:=congrArg Prod.snd hwd;simp at this
      · unfold sizeW at hwd
        split at hwd
        · have:=congrArg Prod.snd hwd;simp at this
        · rename_i hc
          have hle:x.w≤w:=by omega
          exact Nat.lt_of_lt_of_le hx (pow_mono (cw_le hle))
  · match l,h,hl with
    | [x,y],_,hl=>
      have hx:=hl x (by simp)
      have hy:=hl y (by simp)
      refine ⟨?_,fun z hz=>by simp at hz⟩
      rw [List.map_cons,List.map_cons,List.map_nil] at hwd
      simp only [compN]
      by_cases h20:o=20
      · subst h20
        rw [if_pos rfl]
        have e:widthW 20 w v [x.w,y.w]=if [x.w,y.w].all okW=false then (0,3) else if 1≤x.w∧1≤y.w∧x.w+y.w≤64 then (x.w+y.w,0) else (0,3):=by simp [widthW,arity]
        rw [e] at hwd
        split at hwd
        · have:=congrArg Prod.snd hwd;simp at this
        · split at hwd
          · rename_i hc
            have hw:x.w+y.w=w:=congrArg Prod.fst hwd
            have hcw:cw w=cw x.w+cw y.w:=by unfold cw clampW;omega
            rw [hcw]
            unfold concatN
            refine Nat.or_lt_two_pow ?_ (Nat.lt_of_lt_of_le (Nat.mod_lt _ (Nat.pow_pos (by omega))) (pow_mono (by omega)))
            refine Nat.lt_of_le_of_lt (Nat.mod_le _ _) ?_
            rw [Nat.pow_add]
            exact Nat.mul_lt_mul_of_pos_right (Nat.mod_lt _ (Nat.pow_pos (by omega))) (Nat.pow_pos (by omega))
          · have:=congrArg Prod.snd hwd;simp at this
      · rw [if_neg h20]
        have ho':5≤o∧o≤18:=by omega
        have e:widthW o w v [x.w,y.w]=if [x.w,y.w].all okW=false then (0,3) else if x.w=y.w then (if o=16∨o=17∨o=18 then (1,0) else (x.w,0)) else (0,3):=by
          have ha:arity o=2:=by unfold arity;rw [if_neg (by omega),if_neg (by omega),if_neg (by omega),if_pos (by omega)]
          unfold widthW
          rw [ha,if_neg (by simp),if_neg (show ¬ (2:Int)=0 by omega),if_neg (show ¬ (o=21∨o=22∨o=23) by omega),if_neg (show ¬ (2:Int)=1 by omega),if_neg h20,if_neg (show ¬ o=19 by omega)]
          rfl
        rw [e] at hwd
        split at hwd
        · have:=congrArg Prod.snd hwd;simp at this
        · split at hwd
          · split at hwd
            · rename_i hc
              have hw:(1:Int)=w:=congrArg Prod.fst hwd
              have hcw:cw w=1:=by rw [← hw];rfl
              rw [hcw]
              have hf:=flag_lt
              rcases hc with rfl | rfl | rfl<;>simp only [binN]<;>simp<;>exact flag_lt _
            · have hw:x.w=w:=congrArg Prod.fst hwd
              rw [← hw]
              exact bin_lt (cw_in x.w) o _ _
          · have:=congrArg Prod.snd hwd;simp at this
  · match l,h,hl with
    | [x,y,z],_,hl=>
      have hy:=hl y (by simp)
      have hz:=hl z (by simp)
      refine ⟨?_,fun z hz=>by simp at hz⟩
      rw [List.map_cons,List.map_cons,List.map_cons,List.map_nil] at hwd
      have e:widthW 19 w v [x.w,y.w,z.w]=if [x.w,y.w,z.w].all okW=false then (0,3) else if x.w=1∧y.w=z.w then (y.w,0) else (0,3):=by simp [widthW,arity]
      rw [e] at hwd
      split at hwd
      · have:=congrArg Prod.snd hwd;simp at this
      · split at hwd
        · rename_i hc
          have hw:y.w=w:=congrArg Prod.fst hwd
          simp only [compN]
          split
          · rw [← hw];exact hy
          · rw [← hw,hc.2];exact hz
        · have:=congrArg Prod.snd hwd;simp at this
end S
end Go.AE
