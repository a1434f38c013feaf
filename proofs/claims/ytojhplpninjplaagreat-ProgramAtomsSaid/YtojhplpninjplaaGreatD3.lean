import Derived.Test.YtojhplpninjplaaGreatD2
namespace Go.AE.S
open Go Go.AE
set_option linter.unusedSimpArgs false
set_option linter.unusedVariables false
variable {τ:Tm} {σ:Store} {rd:Option Nat}
theorem loop_next {P:Prog} {lv:List Nat} {b:K} {e e':List (Nat×AV)} {σ σ':Store} {nt nt':Nat} {rd rd':Option Nat} (hk:(tm e).kept lv=e) (h:headOf lv σ.length (exec P b ⟨tm e,σ,nt,rd⟩)=some (.inl (e',σ',nt',rd'))):loopAt P (.loop lv b) e σ nt rd=loopAt P (.loop lv b) e' σ' nt' rd':=by
  show exec P (.loop lv b) ⟨tm e,σ,nt,rd⟩=_
  rw [loop_go,hk,back_head,h]
  rfl
theorem loop_last {P:Prog} {lv:List Nat} {b:K} {e:List (Nat×AV)} {σ:Store} {nt:Nat} {rd:Option Nat} {x:Ex×St} (hk:(tm e).kept lv=e) (h:headOf lv σ.length (exec P b ⟨tm e,σ,nt,rd⟩)=some (.inr x)):loopAt P (.loop lv b) e σ nt rd=some x:=by
  show exec P (.loop lv b) ⟨tm e,σ,nt,rd⟩=_
  rw [loop_go,hk,back_head,h]
  rfl
def hA:Term:=.mk 24 8 0 (bs [97]) []
def tA:Term:=.mk 8 8 0 (bs []) [hA,hA]
def aA:Atom:=⟨bs [],tA⟩
theorem x_hole:R P f_law25_hole [.str (bs [97])]=some (.agg hA.row):=by
  (rw [r_law25_hole (lbY rfl),F_law25_hole];simp (disch:=omega) only [eqZ,↓gc_len,seval,-List.reduceReplicate,reduceCtorEq,allP])
  rfl
abbrev insA (k a b q0 q1 q2:Int) (q3:ByteArray):List AV:=[.p (.int .i64 k),.p (.int .i64 a),.p (.int .i64 b),.p (.int .i64 q0),.p (.int .i64 q1),.p (.int .u64 q2),.p (.str q3),.nils,.p (.int .i64 0),.p (.int .i64 0),.p (.int .u64 0),.p (.str (bs [])),.nils,.p (.str (bs []))]
abbrev I1:List AV:=insA 1 0 0 0 0 0 (bs [])
abbrev I2:List AV:=insA 2 0 1 8 8 0 (bs [])
abbrev I3:List AV:=insA 3 1 2 0 0 0 (bs [])
abbrev CS (hm:List (PV×AV)) (ins:Obj) (n:Nat) (regs:Int) (roots:Obj) (nr:Nat) (hs:Obj) (nh:Nat) (g:Store):Store :=
  .pv 0 [] false :: .pv 0 [] false :: .pv 0 [] false :: .pv 0 [] false :: .av 5 [[.sl 0 0,.p (.int .i64 0),.sl 1 0,.sl 2 0,.sl 3 0]] false :: .map hm false :: .map [] false :: .map [] false :: ins :: roots :: hs :: .pv 0 [] false :: .av 8 [[.sl 8 n,.p (.int .i64 regs),.sl 9 nr,.sl 10 nh,.sl 11 0,.map 5,.map 6,.map 7]] false :: g
abbrev oE:Obj:=.pv 0 [] false
abbrev pC:AV:=.ptr 12 1 0 0
theorem ncp {b n i o:Nat}:nilchkV (.ptr b n i o)=some (.ptr b n i o):=rfl
theorem q8_0 {a b c d e f g h:AV}:part 0 1 [a,b,c,d,e,f,g,h]=some [a]:=rfl
theorem q8_1 {a b c d e f g h:AV}:part 1 1 [a,b,c,d,e,f,g,h]=some [b]:=rfl
theorem q8_2 {a b c d e f g h:AV}:part 2 1 [a,b,c,d,e,f,g,h]=some [c]:=rfl
theorem q8_3 {a b c d e f g h:AV}:part 3 1 [a,b,c,d,e,f,g,h]=some [d]:=rfl
theorem q8_5 {a b c d e f g h:AV}:part 5 1 [a,b,c,d,e,f,g,h]=some [f]:=rfl
theorem w8_0 {a b c d e f g h x:AV}:putPart 0 [x] [a,b,c,d,e,f,g,h]=some [x,b,c,d,e,f,g,h]:=rfl
theorem w8_1 {a b c d e f g h x:AV}:putPart 1 [x] [a,b,c,d,e,f,g,h]=some [a,x,c,d,e,f,g,h]:=rfl
theorem w8_2 {a b c d e f g h x:AV}:putPart 2 [x] [a,b,c,d,e,f,g,h]=some [a,b,x,d,e,f,g,h]:=rfl
theorem w8_3 {a b c d e f g h x:AV}:putPart 3 [x] [a,b,c,d,e,f,g,h]=some [a,b,c,x,e,f,g,h]:=rfl
theorem mk8 {b c d e f g h:AV} {n m:Nat}:mkObj 8 [.sl n m,b,c,d,e,f,g,h]=.av 8 [[.sl n m,b,c,d,e,f,g,h]] false:=by simp [mkObj,allP]
set_option maxHeartbeats 4000000 in
theorem x_register:call P F_program_compiler_register [pC] (CS [] oE 0 0 oE 0 oE 0 [])=some (.p (.int .i64 0),CS [] oE 0 1 oE 0 oE 0 []):=by
  (rw [call_go (lbY rfl),F_program_compiler_register];simp (disch:=omega) only [eqZ,↓gc_len,seval,-List.reduceReplicate,reduceCtorEq,allP,ncp,pC,CS,q8_1,w8_1,mk8])
  rfl
abbrev z14:List AV:=insA 0 0 0 0 0 0 (bs [])
theorem bu_i {k a b:Int}:buildV z14 [(0,1,.p (.int .i64 k)),(1,1,.p (.int .i64 a)),(2,1,.p (.int .i64 b))]=some (.agg (insA k a b 0 0 0 (bs []))):=rfl
theorem bu_n {q0 q1 q2:Int} {q3:ByteArray} {k a b:Int}:buildV z14 [(0,1,.p (.int .i64 k)),(1,1,.p (.int .i64 a)),(2,1,.p (.int .i64 b)),(3,5,.agg [.p (.int .i64 q0),.p (.int .i64 q1),.p (.int .u64 q2),.p (.str q3),.nils])]=some (.agg (insA k a b q0 q1 q2 q3)):=rfl
theorem bs_i {k a b q0 q1 q2:Int} {q3:ByteArray}:bsliceV σ 14 1 (fillP (List.replicate 1 z14).flatten [(0,14,.agg (insA k a b q0 q1 q2 q3))])=some (.sl σ.length 1,σ++[.av 14 [insA k a b q0 q1 q2 q3] false]):=rfl
theorem sr_0 {hm:List (PV×AV)} {ins roots hs:Obj} {n nr nh:Nat} {regs:Int} {r:List AV}:srcOf (CS hm ins n regs roots nr hs nh [.av 14 [r] false]) 14 (.sl 13 1)=some (.inr [r]):=rfl
theorem sr_2 {hm:List (PV×AV)} {ins roots hs g1 g2 g3:Obj} {n nr nh:Nat} {regs:Int} {r:List AV}:srcOf (CS hm ins n regs roots nr hs nh [g1,g2,g3,.av 14 [r] false]) 14 (.sl 16 1)=some (.inr [r]):=rfl
theorem ap_i0 {hm:List (PV×AV)} {roots hs:Obj} {nr nh:Nat} {regs:Int} {r:List AV} {g:Store}:appendV (CS hm oE 0 regs roots nr hs nh g) 14 168 (.sl 8 0) (some (.inr [r]))=some (.sl 8 1,CS hm (.av 14 [r] false) 0 regs roots nr hs nh g):=by simp [appendV,appendRows,Obj.len,joinObj,Src.count]
theorem ap_i1 {hm:List (PV×AV)} {roots hs:Obj} {nr nh:Nat} {regs:Int} {r a:List AV} {g:Store}:appendV (CS hm (.av 14 [a] false) 1 regs roots nr hs nh g) 14 168 (.sl 8 1) (some (.inr [r]))=some (.sl 8 2,CS hm (.av 14 [a,r] false) 1 regs roots nr hs nh g):=by simp [appendV,appendRows,Obj.len,joinObj,Src.count]
theorem ap_i2 {hm:List (PV×AV)} {roots hs:Obj} {nr nh:Nat} {regs:Int} {r a b:List AV} {g:Store}:appendV (CS hm (.av 14 [a,b] false) 2 regs roots nr hs nh g) 14 168 (.sl 8 2) (some (.inr [r]))=some (.sl 8 3,CS hm (.av 14 [a,b,r] false) 2 regs roots nr hs nh g):=by simp [appendV,appendRows,Obj.len,joinObj,Src.count]
theorem bl_row {m:Nat} {k a b q0 q1 q2:Int} {q3:ByteArray}:(insA k a b q0 q1 q2 q3).all (AE.below m)=true:=by simp [AE.below]
theorem bl_1 {m:Nat} {r1:List AV} (h1:r1.all (AE.below m)=true):Obj.below m (.av 14 [r1] false)=true:=by
  simp only [Obj.below,List.all_cons,List.all_nil,h1,Bool.and_true]
theorem blk_2 {m:Nat} {r1 r2:List AV} (h1:r1.all (AE.below m)=true) (h2:r2.all (AE.below m)=true):Obj.below m (.av 14 [r1,r2] false)=true:=by
  simp only [Obj.below,List.all_cons,List.all_nil,h1,h2,Bool.and_true]
theorem bl_3 {m:Nat} {r1 r2 r3:List AV} (h1:r1.all (AE.below m)=true) (h2:r2.all (AE.below m)=true) (h3:r3.all (AE.below m)=true):Obj.below m (.av 14 [r1,r2,r3] false)=true:=by
  simp only [Obj.below,List.all_cons,List.all_nil,h1,h2,h3,Bool.and_true]
theorem bl_pv {m e:Nat} {rows:List (List PV)} {f:Bool}:Obj.below m (.pv e rows f)=true:=rfl
theorem bl_cs {m:Nat} (hm':13≤m) {hm:List (PV×AV)} {ins roots hs:Obj} {n nr nh:Nat} {regs:Int} (h1:Obj.below m ins=true) (h2:Obj.below m roots=true) (h3:Obj.below m hs=true) (h4:Obj.below m (.map hm false)=true):(CS hm ins n regs roots nr hs nh []).all (Obj.below m)=true:=by
  simp only [CS,List.all_cons,List.all_nil,h1,h2,h3,h4,Bool.and_true,Bool.true_and]
  have a0:∀ k,k<13→k<m:=fun k h=>by omega
  simp [Obj.below,AE.below,a0]
theorem gc_c0 {vs:List AV} {x:Store} {hm:List (PV×AV)} {ins roots hs:Obj} {n nr nh:Nat} {regs:Int} (hv:vs.all (AE.below 13)=true) (h1:Obj.below 13 ins=true) (h2:Obj.below 13 roots=true) (h3:Obj.below 13 hs=true) (h4:Obj.below 13 (.map hm false)=true):gc 13 vs (CS hm ins n regs roots nr hs nh x)=CS hm ins n regs roots nr hs nh []:=by
  have e:=bl_cs (n:=n) (nr:=nr) (nh:=nh) (regs:=regs) (Nat.le_refl 13) h1 h2 h3 h4
  cases x with
  | nil=>exact gc_same rfl
  | cons a x=>
    unfold gc
    rw [if_neg (by simp),if_pos]
    · rfl
    · unfold gcOk
      rw [hv,Bool.true_and]
      exact e
theorem gc_c2 {vs:List AV} {x:Store} {g1 g2 g3:Obj} {hm:List (PV×AV)} {ins roots hs:Obj} {n nr nh:Nat} {regs:Int} (hv:vs.all (AE.below 16)=true) (h1:Obj.below 16 ins=true) (h2:Obj.below 16 roots=true) (h3:Obj.below 16 hs=true) (h4:Obj.below 16 (.map hm false)=true) (h5:Obj.below 16 g1=true) (h6:Obj.below 16 g2=true) (h7:Obj.below 16 g3=true):gc 16 vs (CS hm ins n regs roots nr hs nh (g1 :: g2 :: g3 :: x))=CS hm ins n regs roots nr hs nh [g1,g2,g3]:=by
  have e:=bl_cs (m:=16) (n:=n) (nr:=nr) (nh:=nh) (regs:=regs) (by omega) h1 h2 h3 h4
  cases x with
  | nil=>exact gc_same rfl
  | cons a x=>
    unfold gc
    rw [if_neg (by simp),if_pos]
    · rfl
    · unfold gcOk
      rw [hv,Bool.true_and]
      have e2:((CS hm ins n regs roots nr hs nh (g1 :: g2 :: g3 :: a :: x)).take 16)=CS hm ins n regs roots nr hs nh []++[g1,g2,g3]:=rfl
      rw [e2,List.all_append,e]
      simp only [List.all_cons,List.all_nil,h5,h6,h7,Bool.and_true]
theorem bv_p {m:Nat} {v:PV}:[AV.p v].all (AE.below m)=true:=by simp [AE.below]
theorem bm_0 {m:Nat}:Obj.below m (.map [] false)=true:=rfl
theorem bm_1 {m:Nat} {k v:PV}:Obj.below m (.map [(k,.p v)] false)=true:=by simp [Obj.below,AE.below]
set_option maxHeartbeats 4000000 in
theorem x_emit1:call P F_program_compiler_emit [pC,.p (.int .i64 1),.p (.int .i64 0),.p (.int .i64 0)] (CS [] oE 0 1 oE 0 oE 0 [])=some (.p (.tup []),CS [] (.av 14 [I1] false) 1 1 oE 0 oE 0 []):=by
  (rw [call_go (lbY rfl),F_program_compiler_emit];simp (disch:=omega) only [eqZ,↓gc_len,seval,-List.reduceReplicate,reduceCtorEq,allP,ncp,pC,CS,q8_0,w8_0,mk8,bu_i,bs_i,sr_0,ap_i0])
  rw [gc_c0 bv_p (bl_1 bl_row) bl_pv bl_pv bm_0]
abbrev a1:PV×AV:=(.str (bs [97]),.p (.int .i64 1))
abbrev g1:Obj:=.av 14 [I2] false
abbrev g3:Obj:=.pv 5 [hA.row] false
theorem lk_0 {ins roots hs:Obj} {n nr nh:Nat} {regs:Int} {g:Store}:lookupV (CS [] ins n regs roots nr hs nh g) .str (.p (.int .i64 0)) (.map 5) (.p (.str (bs [97]))) true=some (.p (.tup [.int .i64 0,.bool false])):=rfl
theorem lk_1 {ins roots hs:Obj} {n nr nh:Nat} {regs:Int} {g:Store}:lookupV (CS [a1] ins n regs roots nr hs nh g) .str (.p (.int .i64 0)) (.map 5) (.p (.str (bs [97]))) true=some (.p (.tup [.int .i64 1,.bool true])):=by
  simp [lookupV,lookV,findKey,eq_str,mkTup,allP,isLeaf]
theorem mu_0 {ins roots hs:Obj} {n nr nh:Nat} {regs:Int} {g:Store}:mupdV (CS [] ins n regs roots nr hs nh g) .str (.map 5) (.p (.str (bs [97]))) (.p (.int .i64 1))=some (.any,CS [a1] ins n regs roots nr hs nh g):=rfl
set_option maxHeartbeats 4000000 in
theorem x_emit3  : call P F_program_compiler_emit [pC,.p (.int .i64 3),.p (.int .i64 1),.p (.int .i64 2)] (CS [a1] (.av 14 [I1,I2] false) 2 3 oE 0 oE 0 [g1,oE,g3])=some (.p (.tup []),CS [a1] (.av 14 [I1,I2,I3] false) 3 3 oE 0 oE 0 [g1,oE,g3]):=by
  (rw [call_go (lbY rfl),F_program_compiler_emit];simp (disch:=omega) only [eqZ,↓gc_len,seval,-List.reduceReplicate,reduceCtorEq,allP,ncp,pC,CS,q8_0,w8_0,mk8,bu_i,bs_i,sr_2,ap_i2])
  rw [gc_c2 bv_p (bl_3 bl_row bl_row bl_row) bl_pv bl_pv bm_1 (bl_1 bl_row) bl_pv bl_pv]
set_option maxHeartbeats 4000000 in
theorem x_hole1:call P F_program_compiler_hole [pC,.p (.str (bs [97])),.p (.int .i64 8),.p (.int .i64 1),.p (.bool true)] (CS [] (.av 14 [I1,I2] false) 2 3 oE 0 oE 0 [g1,oE,g3])=some (.p (.tup []),CS [a1] (.av 14 [I1,I2] false) 2 3 oE 0 oE 0 [g1,oE,g3]):=by
  have hw:call P F_program_compiler_width [pC,.p (.int .i64 1),.p (.int .i64 8),.p (.bool true)] (CS [] (.av 14 [I1,I2] false) 2 3 oE 0 oE 0 [g1,oE,g3])=some (.p (.tup []),CS [] (.av 14 [I1,I2] false) 2 3 oE 0 oE 0 [g1,oE,g3]):=by
    (rw [call_go (lbY rfl),F_program_compiler_width];simp (disch:=omega) only [eqZ,↓gc_len,seval,-List.reduceReplicate,reduceCtorEq,allP,CS])
    rw [gc_same (by rfl)]
  (rw [call_go (lbY rfl),F_program_compiler_hole];simp (disch:=omega) only [eqZ,↓gc_len,seval,-List.reduceReplicate,reduceCtorEq,allP,ncp,pC,CS,q8_5,lk_0,mu_0,q_program_compiler_width,hw])
  rw [gc_same (by rfl)]
set_option maxHeartbeats 4000000 in
theorem x_hole2  : call P F_program_compiler_hole [pC,.p (.str (bs [97])),.p (.int .i64 8),.p (.int .i64 2),.p (.bool true)] (CS [a1] (.av 14 [I1,I2] false) 2 3 oE 0 oE 0 [g1,oE,g3])=some (.p (.tup []),CS [a1] (.av 14 [I1,I2,I3] false) 3 3 oE 0 oE 0 [g1,oE,g3]):=by
  have he:=x_emit3
  (rw [call_go (lbY rfl),F_program_compiler_hole];simp (disch:=omega) only [eqZ,↓gc_len,seval,-List.reduceReplicate,reduceCtorEq,allP,ncp,pC,CS,q8_5,lk_1,q_program_compiler_emit,he])
  rw [gc_same (by rfl)]
theorem h_op:hA.op=24:=rfl
theorem h_w:hA.w=8:=rfl
theorem h_name:hA.name=bs [97]:=rfl
theorem t_op:tA.op=8:=rfl
theorem t_w:tA.w=8:=rfl
theorem t_v:tA.v=0:=rfl
theorem t_name:tA.name=bs []:=rfl
theorem w_10:IntKind.i64.wrap (1+0)=1:=rfl
theorem w_1:IntKind.i64.wrap 1=1:=rfl
theorem w_2:IntKind.i64.wrap 2=2:=rfl
theorem w_3:IntKind.i64.wrap 3=3:=rfl
theorem x_det:R P f_program_determined [.int .i64 8]=some (.bool true):=by
  (rw [r_program_determined (lbY rfl),F_program_determined];simp (disch:=omega) only [eqZ,↓gc_len,seval,-List.reduceReplicate,reduceCtorEq,allP])
theorem x_ground:R P f_pattern_Ground [.agg tA.row]=some (.bool false):=by
  have h:=s_pattern_Ground tA (by decide)
  have e:(tA.pre.any fun u=>decide (u.op∈[24,25,26]))=true:=by decide
  rw [e] at h
  exact h
set_option maxHeartbeats 4000000 in
theorem x_pat1:call P F_program_compiler_pattern [pC,.p (.agg hA.row),.p (.int .i64 1),.p (.bool true)] (CS [] (.av 14 [I1,I2] false) 2 3 oE 0 oE 0 [g1,oE,g3])=some (.p (.tup []),CS [a1] (.av 14 [I1,I2] false) 2 3 oE 0 oE 0 [g1,oE,g3]):=by
  have hh:=x_hole1
  (rw [call_go (lbY rfl),F_program_compiler_pattern];simp (disch:=omega) only [eqZ,↓gc_len,seval,-List.reduceReplicate,reduceCtorEq,allP,ncp,pC,CS,h_op,h_w,h_name,q_program_compiler_hole,hh])
  rw [gc_same (by rfl)]
set_option maxHeartbeats 4000000 in
theorem x_pat2:call P F_program_compiler_pattern [pC,.p (.agg hA.row),.p (.int .i64 2),.p (.bool true)] (CS [a1] (.av 14 [I1,I2] false) 2 3 oE 0 oE 0 [g1,oE,g3])=some (.p (.tup []),CS [a1] (.av 14 [I1,I2,I3] false) 3 3 oE 0 oE 0 [g1,oE,g3]):=by
  have hh:=x_hole2
  (rw [call_go (lbY rfl),F_program_compiler_pattern];simp (disch:=omega) only [eqZ,↓gc_len,seval,-List.reduceReplicate,reduceCtorEq,allP,ncp,pC,CS,h_op,h_w,h_name,q_program_compiler_hole,hh])
  rw [gc_same (by rfl)]
abbrev e_pt (k:Int):List (Nat×AV):=[(0,pC),(5,.p (.ptr tA.row 0)),(8,.p (.int .i64 1)),(94,.p (.lst (tA.args.map Term.row))),(95,.p (.int .i64 2)),(96,.p (.int .i64 k))]
theorem gc_c1 {vs:List AV} {x:Store} {g1:Obj} {hm:List (PV×AV)} {ins roots hs:Obj} {n nr nh:Nat} {regs:Int} (hv:vs.all (AE.below 14)=true) (h1:Obj.below 14 ins=true) (h2:Obj.below 14 roots=true) (h3:Obj.below 14 hs=true) (h4:Obj.below 14 (.map hm false)=true) (h5:Obj.below 14 g1=true):gc 14 vs (CS hm ins n regs roots nr hs nh (g1 :: x))=CS hm ins n regs roots nr hs nh [g1]:=by
  have e:=bl_cs (m:=14) (n:=n) (nr:=nr) (nh:=nh) (regs:=regs) (by omega) h1 h2 h3 h4
  cases x with
  | nil=>exact gc_same rfl
  | cons a x=>
    unfold gc
    rw [if_neg (by simp),if_pos]
    · rfl
    · unfold gcOk
      rw [hv,Bool.true_and]
      have e2:((CS hm ins n regs roots nr hs nh (g1 :: a :: x)).take 14)=CS hm ins n regs roots nr hs nh []++[g1]:=rfl
      rw [e2,List.all_append,e]
      simp only [List.all_cons,List.all_nil,h5,Bool.and_true]
theorem al_q {hm:List (PV×AV)} {ins roots hs o:Obj} {n nr nh:Nat} {regs:Int}:allocV 5 (eagers [.p (.int .i64 0),.p (.int .i64 0),.p (.int .u64 0),.p (.str (bs [])),.nils] (CS hm ins n regs roots nr hs nh [o]))=some (.ptr 15 1 0 0,CS hm ins n regs roots nr hs nh [o,oE,.av 5 [[.p (.int .i64 0),.p (.int .i64 0),.p (.int .u64 0),.p (.str (bs [])),.sl 14 0]] false]):=rfl
theorem bv_e {a b c d e:PV}:[AV.ptr 12 1 0 0,.p a,.p b,.p c,.p d,.p e].all (AE.below 14)=true:=by simp [AE.below]
theorem t_it:∀ σ,iadrSV σ 5 (.p (.lst (tA.args.map Term.row))) (.p (.int .i64 0))=some (.p (.ptr hA.row 0)):=fun σ=>v_iadr (k:=.i64) (es:=5) (σ:=σ) (i:=0) (map_get (f:=Term.row) (l:=tA.args) (i:=0) (a:=hA) rfl) hA.row_len
theorem t_it1:∀ σ,iadrSV σ 5 (.p (.lst (tA.args.map Term.row))) (.p (.int .i64 1))=some (.p (.ptr hA.row 0)):=fun σ=>v_iadr (k:=.i64) (es:=5) (σ:=σ) (i:=1) (map_get (f:=Term.row) (l:=tA.args) (i:=1) (a:=hA) rfl) hA.row_len
set_option maxHeartbeats 8000000 in
theorem x_l0:headOf [0,5,8,94,95,96] 14 (exec P B0_program_compiler_pattern ⟨tm (e_pt 0),CS [] (.av 14 [I1,I2] false) 2 3 oE 0 oE 0 [g1],111,none⟩)=some (.inl (e_pt 1,CS [a1] (.av 14 [I1,I2] false) 2 3 oE 0 oE 0 [g1],111,none)):=by
  have hp:=x_pat1
  simp only [B0_program_compiler_pattern]
  simp (disch:=omega) only [eqZ,↓gc_len,seval,-List.reduceReplicate,reduceCtorEq,allP,CS,pC,t_it,al_q,t_op,q_program_determined,x_det,q_program_compiler_pattern,hp,e_pt,w_10,w_1,w_2]
  rw [gc_c1 bv_e (blk_2 bl_row bl_row) bl_pv bl_pv bm_1 (bl_1 bl_row)]
set_option maxHeartbeats 8000000 in
theorem x_l1:headOf [0,5,8,94,95,96] 14 (exec P B0_program_compiler_pattern ⟨tm (e_pt 1),CS [a1] (.av 14 [I1,I2] false) 2 3 oE 0 oE 0 [g1],111,none⟩)=some (.inl (e_pt 2,CS [a1] (.av 14 [I1,I2,I3] false) 3 3 oE 0 oE 0 [g1],111,none)):=by
  have hp:=x_pat2
  simp only [B0_program_compiler_pattern]
  simp (disch:=omega) only [eqZ,↓gc_len,seval,-List.reduceReplicate,reduceCtorEq,allP,CS,pC,t_it1,al_q,t_op,q_program_determined,x_det,q_program_compiler_pattern,hp,e_pt,w_10,w_1,w_2]
  rw [gc_c1 bv_e (bl_3 bl_row bl_row bl_row) bl_pv bl_pv bm_1 (bl_1 bl_row)]
set_option maxHeartbeats 8000000 in
theorem x_lp:loopAt P L0_program_compiler_pattern (e_pt 0) (CS [] (.av 14 [I1,I2] false) 2 3 oE 0 oE 0 [g1]) 111 none=some (.exit 1,⟨upd (tm (e_pt 2)) 97 (.p (.bool false)),CS [a1] (.av 14 [I1,I2,I3] false) 3 3 oE 0 oE 0 [g1],111,none⟩):=by
  refine (loop_next rfl x_l0).trans ((loop_next rfl x_l1).trans (loop_last rfl ?_))
  simp only [B0_program_compiler_pattern]
  simp (disch:=omega) only [eqZ,↓gc_len,seval,-List.reduceReplicate,reduceCtorEq,allP,CS,pC,e_pt]
set_option maxHeartbeats 8000000 in
theorem x_pattern:call P F_program_compiler_pattern [pC,.p (.agg tA.row),.p (.int .i64 0),.p (.bool false)] (CS [] (.av 14 [I1] false) 1 1 oE 0 oE 0 [])=some (.p (.tup []),CS [a1] (.av 14 [I1,I2,I3] false) 3 3 oE 0 oE 0 []):=by
  have hp:=x_lp
  simp only [CS,e_pt,g1,I2] at hp
  have hl:tA.args.length=2:=rfl
  (rw [call_go (lbY rfl),F_program_compiler_pattern];simp (disch:=omega) only [eqZ,↓gc_len,seval,-List.reduceReplicate,reduceCtorEq,allP,ncp,pC,CS,t_op,t_w,t_v,t_name,q_pattern_Ground,x_ground,q8_0,q8_1,w8_0,w8_1,mk8,List.length_map,hl,bu_n,bs_i,sr_0,ap_i1,k0_program_compiler_pattern,hp,w_3,I2])
  rw [gc_c0 bv_p (bl_3 bl_row bl_row bl_row) bl_pv bl_pv bm_1]
theorem tok_h:TOk hA:=tok_leaf (by decide) (by decide) ⟨by decide,by decide⟩ (by decide)
theorem tok_t:TOk tA:=.mk _ (by decide) (by decide) ⟨by decide,by decide⟩ (by decide) (by decide) (by
  intro c hc
  rcases List.mem_cons.1 hc with rfl | hc
  · exact tok_h
  · rw [List.mem_singleton.1 hc];exact tok_h)
theorem v2_iff {a b:V2}:a=b↔a.name=b.name∧a.w=b.w:=by cases a;cases b;simp
instance:DecidableEq V2:=fun a b=>decidable_of_iff (a.name=b.name∧a.w=b.w) v2_iff.symm
theorem a_one:∀ a∈[aA],TOk a.pat∧a.pat.count≤1000000:=by
  intro a h
  rw [List.mem_singleton.1 h]
  exact ⟨tok_t,by decide⟩
theorem x_ment:[aA].flatMap mentA=[⟨bs [97],8,0⟩,⟨bs [97],8,0⟩]:=by decide +kernel
theorem x_chk:R P f_program_CheckAtoms [.lst [aA.row]]=some (.int .i64 0):=by
  have h:=s_program_CheckAtoms [aA] (by decide) (by rw [x_ment];decide) a_one
  have e:atomsE [aA]=0:=by decide +kernel
  rw [e] at h
  exact h
theorem x_chk0:R P f_program_CheckAtoms [.lst []]=some (.int .i64 7):=by
  have h:=s_program_CheckAtoms [] (by decide) (by decide) (by simp)
  exact h
theorem x_names:R P f_program_Names [.lst [aA.row]]=some (.tup [.lst [[.str (bs [97]),.int .i64 8]],.lst []]):=by
  have h:=s_program_Names [aA] (by decide) (by rw [x_ment];decide) a_one
  rw [x_ment] at h
  have e0:namesM 0 [⟨bs [97],8,0⟩,⟨bs [97],8,0⟩]=[⟨bs [97],8⟩]:=by decide +kernel
  have e1:namesM 1 [⟨bs [97],8,0⟩,⟨bs [97],8,0⟩]=[]:=by decide +kernel
  rw [e0,e1] at h
  exact h
abbrev e_cq0 (k:Int):List (Nat×AV):=[(0,.p (.lst [aA.row])),(2,.ptr 4 1 0 0),(5,pC),(26,.p (.lst [aA.row])),(27,.p (.int .i64 1)),(28,.p (.int .i64 k))]
abbrev oR:Obj:=.pv 1 [[.int .i64 0]] false
theorem it_a:∀ σ,iadrSV σ 6 (.p (.lst [aA.row])) (.p (.int .i64 0))=some (.p (.ptr aA.row 0)):=fun σ=>v_iadr (k:=.i64) (es:=6) (σ:=σ) (i:=0) (rows:=[aA.row]) rfl aA.row_len
theorem r_root:aA.root=bs []:=rfl
theorem r_pat:aA.pat=tA:=rfl
theorem bs_r {hm:List (PV×AV)} {ins roots hs:Obj} {n nr nh:Nat} {regs:Int}:bsliceV (CS hm ins n regs roots nr hs nh []) 1 1 (fillP (List.replicate 1 [.p (.int .i64 0)]).flatten [(0,1,.p (.int .i64 0))])=some (.sl 13 1,CS hm ins n regs roots nr hs nh [oR]):=rfl
theorem sr_r {hm:List (PV×AV)} {ins roots hs:Obj} {n nr nh:Nat} {regs:Int}:srcOf (CS hm ins n regs roots nr hs nh [oR]) 1 (.sl 13 1)=some (.inl [[.int .i64 0]]):=rfl
theorem ap_r {hm:List (PV×AV)} {ins hs:Obj} {n nh:Nat} {regs:Int} {g:Store}:appendV (CS hm ins n regs oE 0 hs nh g) 1 8 (.sl 9 0) (some (.inl [[.int .i64 0]]))=some (.sl 9 1,CS hm ins n regs oR 0 hs nh g):=by simp [appendV,appendRows,Obj.len,joinObj,Src.count]
theorem bv_c {a b c d:PV}:[AV.p a,.ptr 4 1 0 0,.ptr 12 1 0 0,.p b,.p c,.p d].all (AE.below 13)=true:=by simp [AE.below]
set_option maxHeartbeats 8000000 in
theorem x_c0:headOf [0,2,5,26,27,28] 13 (exec P B0_program_Compile ⟨tm (e_cq0 0),CS [] oE 0 0 oE 0 oE 0 [],134,none⟩)=some (.inl (e_cq0 1,CS [a1] (.av 14 [I1,I2,I3] false) 3 3 oR 1 oE 0 [],134,none)):=by
  have h1:=x_register
  have h2:=x_emit1
  have h3:=x_pattern
  simp only [B0_program_Compile]
  simp (disch:=omega) only [eqZ,↓gc_len,seval,-List.reduceReplicate,reduceCtorEq,allP,CS,pC,it_a,a_load,a_cells,a_root,a_w,a_pat,r_root,r_pat,q_program_compiler_register,h1,q_program_compiler_emit,h2,q_program_compiler_pattern,h3,e_cq0,ncp,q8_2,w8_2,mk8,bs_r,sr_r,ap_r,w_1]
  rw [gc_c0 bv_c (bl_3 bl_row bl_row bl_row) bl_pv bl_pv bm_1]
abbrev vA:List PV:=[.str (bs [97]),.int .i64 8]
abbrev e_cq1 (k:Int):List (Nat×AV):=[(2,.ptr 4 1 0 0),(5,pC),(10,.p (.lst [])),(74,.p (.lst [vA])),(75,.p (.int .i64 1)),(76,.p (.int .i64 k))]
abbrev oH:Obj:=.pv 2 [[.str (bs [97]),.int .i64 1]] false
theorem it_v:∀ σ,iadrSV σ 2 (.p (.lst [vA])) (.p (.int .i64 0))=some (.p (.ptr vA 0)):=fun σ=>v_iadr (k:=.i64) (es:=2) (σ:=σ) (i:=0) (rows:=[vA]) rfl rfl
theorem lk_2 {ins roots hs:Obj} {n nr nh:Nat} {regs:Int} {g:Store}:lookupV (CS [a1] ins n regs roots nr hs nh g) .str (.p (.int .i64 0)) (.map 5) (.p (.str (bs [97]))) false=some (.p (.int .i64 1)):=by
  simp [lookupV,lookV,findKey,eq_str,isLeaf]
theorem sr_h {hm:List (PV×AV)} {ins roots hs:Obj} {n nr nh:Nat} {regs:Int} {r:List PV}:srcOf (CS hm ins n regs roots nr hs nh [.pv 2 [r] false]) 2 (.sl 13 1)=some (.inl [r]):=rfl
theorem ap_h {hm:List (PV×AV)} {ins roots:Obj} {n nr:Nat} {regs:Int} {g:Store} {r:List PV}:appendV (CS hm ins n regs roots nr oE 0 g) 2 24 (.sl 10 0) (some (.inl [r]))=some (.sl 10 1,CS hm ins n regs roots nr (.pv 2 [r] false) 0 g):=by simp [appendV,appendRows,Obj.len,joinObj,Src.count]
theorem bv_d {a b c d:PV}:[.ptr 4 1 0 0,.ptr 12 1 0 0,AV.p a,.p b,.p c,.p d].all (AE.below 13)=true:=by simp [AE.below]
set_option maxHeartbeats 8000000 in
theorem x_c1:headOf [2,5,10,74,75,76] 13 (exec P B1_program_Compile ⟨tm (e_cq1 0),CS [a1] (.av 14 [I1,I2,I3] false) 3 3 oR 1 oE 0 [],134,none⟩)=some (.inl (e_cq1 1,CS [a1] (.av 14 [I1,I2,I3] false) 3 3 oR 1 oH 1 [],134,none)):=by
  simp only [B1_program_Compile]
  simp (disch:=omega) only [eqZ,↓gc_len,seval,-List.reduceReplicate,reduceCtorEq,allP,CS,pC,vA,it_v,e_cq1,ncp,q8_3,q8_5,w8_3,mk8,lk_2,sr_h,ap_h,w_1]
  rw [gc_c0 bv_d (bl_3 bl_row bl_row bl_row) bl_pv bl_pv bm_1]
set_option maxHeartbeats 8000000 in
theorem x_lc0:loopAt P L0_program_Compile (e_cq0 0) (CS [] oE 0 0 oE 0 oE 0 []) 134 none=some (.exit 0,⟨upd (tm (e_cq0 1)) 29 (.p (.bool false)),CS [a1] (.av 14 [I1,I2,I3] false) 3 3 oR 1 oE 0 [],134,none⟩):=by
  refine (loop_next rfl x_c0).trans (loop_last rfl ?_)
  simp only [B0_program_Compile]
  simp (disch:=omega) only [eqZ,↓gc_len,seval,-List.reduceReplicate,reduceCtorEq,allP,CS,pC,e_cq0]
set_option maxHeartbeats 8000000 in
theorem x_lc1:loopAt P L1_program_Compile (e_cq1 0) (CS [a1] (.av 14 [I1,I2,I3] false) 3 3 oR 1 oE 0 []) 134 none=some (.exit 2,⟨upd (tm (e_cq1 1)) 77 (.p (.bool false)),CS [a1] (.av 14 [I1,I2,I3] false) 3 3 oR 1 oH 1 [],134,none⟩):=by
  refine (loop_next rfl x_c1).trans (loop_last rfl ?_)
  simp only [B1_program_Compile]
  simp (disch:=omega) only [eqZ,↓gc_len,seval,-List.reduceReplicate,reduceCtorEq,allP,CS,pC,e_cq1]
abbrev e_cq2:List (Nat×AV):=[(2,.ptr 4 1 0 0),(5,pC),(102,.p (.lst [])),(103,.p (.int .i64 0)),(104,.p (.int .i64 0))]
set_option maxHeartbeats 8000000 in
theorem x_lc2:loopAt P L2_program_Compile e_cq2 (CS [a1] (.av 14 [I1,I2,I3] false) 3 3 oR 1 oH 1 []) 134 none=some (.exit 4,⟨upd (tm e_cq2) 105 (.p (.bool false)),CS [a1] (.av 14 [I1,I2,I3] false) 3 3 oR 1 oH 1 [],134,none⟩):=by
  refine loop_last rfl ?_
  simp only [B2_program_Compile]
  simp (disch:=omega) only [eqZ,↓gc_len,seval,-List.reduceReplicate,reduceCtorEq,allP,CS,pC,e_cq2]
abbrev rowP (k a b q0 q1 q2:Int) (q3:ByteArray):List PV:=[.int .i64 k,.int .i64 a,.int .i64 b,.int .i64 q0,.int .i64 q1,.int .u64 q2,.str q3,.lst [],.int .i64 0,.int .i64 0,.int .u64 0,.str (bs []),.lst [],.str (bs [])]
abbrev R1:List PV:=rowP 1 0 0 0 0 0 (bs [])
abbrev R2:List PV:=rowP 2 0 1 8 8 0 (bs [])
abbrev RI3:List PV:=rowP 3 1 2 0 0 0 (bs [])
abbrev prA:List PV:=[.lst [R1,R2,RI3],.int .i64 3,.lst [[.int .i64 0]],.lst [[.str (bs [97]),.int .i64 1]],.lst []]
theorem al_c:allocV 5 (eagers [.nils,.p (.int .i64 0),.nils,.nils,.nils] [])=some (.ptr 4 1 0 0,[oE,oE,oE,oE,.av 5 [[.sl 0 0,.p (.int .i64 0),.sl 1 0,.sl 2 0,.sl 3 0]] false]):=rfl
theorem bu_c:buildV [.nils,.p (.int .i64 0),.nils,.nils,.nils,.p .nilm,.p .nilm,.p .nilm] [(5,1,.map 5),(6,1,.map 6),(7,1,.map 7)]=some (.agg [.nils,.p (.int .i64 0),.nils,.nils,.nils,.map 5,.map 6,.map 7]):=rfl
theorem ce_c {a b c d e f g h:AV}:cellsOf 8 true (.agg [a,b,c,d,e,f,g,h])=some [a,b,c,d,e,f,g,h]:=rfl
theorem al_8:allocV 8 (eagers [.nils,.p (.int .i64 0),.nils,.nils,.nils,.map 5,.map 6,.map 7] [oE,oE,oE,oE,.av 5 [[.sl 0 0,.p (.int .i64 0),.sl 1 0,.sl 2 0,.sl 3 0]] false,.map [] false,.map [] false,.map [] false])=some (pC,CS [] oE 0 0 oE 0 oE 0 []):=rfl
theorem pt_c {n a b c:Nat} {e f g:AV} {r:Int}:ofC true (part 0 5 [.sl 8 n,.p (.int .i64 r),.sl 9 a,.sl 10 b,.sl 11 c,e,f,g])=some (.agg [.sl 8 n,.p (.int .i64 r),.sl 9 a,.sl 10 b,.sl 11 c]):=rfl
abbrev CSF:Store:=[.pv 0 [] false,.pv 0 [] false,.pv 0 [] false,.pv 0 [] false,.av 5 [[.sl 8 3,.p (.int .i64 3),.sl 9 1,.sl 10 1,.sl 11 0]] false,.map [a1] false,.map [] false,.map [] false,.av 14 [I1,I2,I3] false,oR,oH,.pv 0 [] false,.av 8 [[.sl 8 3,.p (.int .i64 3),.sl 9 1,.sl 10 1,.sl 11 0,.map 5,.map 6,.map 7]] false]
theorem st_c:storeV (CS [a1] (.av 14 [I1,I2,I3] false) 3 3 oR 1 oH 1 []) 5 (.ptr 4 1 0 0) (.agg [.sl 8 3,.p (.int .i64 3),.sl 9 1,.sl 10 1,.sl 11 0])=some CSF:=rfl
theorem pu_c:purify CSF depth (.tup [.agg [.sl 8 3,.p (.int .i64 3),.sl 9 1,.sl 10 1,.sl 11 0],.p (.int .i64 0)])=some (.tup [.agg prA,.int .i64 0]):=rfl
set_option maxHeartbeats 8000000 in
theorem x_Compile:R P f_program_Compile [.lst [aA.row]]=some (.tup [.agg prA,.int .i64 0]):=by
  have h0:=x_lc0
  have h1:=x_lc1
  have h2:=x_lc2
  simp only [CS,e_cq0,e_cq1,e_cq2,pC] at h0 h1 h2
  (rw [r_program_Compile (lbY rfl),F_program_Compile];simp (disch:=omega) only [eqZ,↓gc_len,seval,-List.reduceReplicate,reduceCtorEq,allP,al_c,q_program_CheckAtoms,x_chk,k0_program_Compile,h0,q_program_Names,x_names,k1_program_Compile,h1,k2_program_Compile,h2,bu_c,ce_c,al_8,pt_c,st_c,ncp])
  exact pu_c
end Go.AE.S
