import Derived.Test.YtpccheodgonkkaaGreatB0
import Derived.Test.YtpccheodgonkkaaGreatA6
import Derived.Test.YtpccheodgonkkaaGreatD1
import Derived.Test.YtpccheodgonkkaaGreatF2
set_option linter.unusedSimpArgs false
set_option linter.unusedVariables false
namespace Go.AE.S
open Go Go.AE
section
variable {Q:Program}
theorem I6{t:TypeId}{k:IntKind}{c:List PV}(hu:Q.underlying t=some (.int k))(h:Ty Q t c):∃n,c=[.int k n]∧k.min≤n∧n≤k.max:=by
 cases h with
 |int _ k' n h h1 h2=>
  rw[hu]at h;injection h with h
  injection h with h
  subst h;exact⟨n,rfl,h1,h2⟩
 |bool _ b h=>rw[hu]at h;cases h
 |str _ s h=>rw[hu]at h;cases h
 |vu _ e h=>rw[hu]at h;cases h
 |ptr _ e row h=>rw[hu]at h;cases h
 |aW _ e rows h=>rw[hu]at h;cases h
 |struct _ fs parts h=>rw[hu]at h;cases h
 |array _ e n parts h=>rw[hu]at h;cases h
theorem P1{t:TypeId}{c:List PV}(hu:Q.underlying t=some .string)(h:Ty Q t c):∃s,c=[.str s]∧s.size≤maxLen:=by
 cases h with
 |str _ s h hs=>exact⟨s,rfl,hs⟩
 |bool _ b h=>rw[hu]at h;cases h
 |int _ k' n h h1 h2=>rw[hu]at h;cases h
 |vu _ e h=>rw[hu]at h;cases h
 |ptr _ e row h=>rw[hu]at h;cases h
 |aW _ e rows h=>rw[hu]at h;cases h
 |struct _ fs parts h=>rw[hu]at h;cases h
 |array _ e n parts h=>rw[hu]at h;cases h
structure Jl (Q:Program) (tT tS tO tI tU tN:TypeId) (fs:Array Field):Prop where
 uT:Q.underlying tT=some (.struct fs)
 fs:fs.toList.map (·.type)=[tO,tI,tU,tN,tS]
 uO:Q.underlying tO=some (.int .i64)
 uI:Q.underlying tI=some (.int .i64)
 uU:Q.underlying tU=some (.int .u64)
 uN:Q.underlying tN=some .string
 uS:Q.underlying tS=some (.slice tT)
theorem Cs{tT tS tO tI tU tN:TypeId}{fs:Array Field}(H:Jl Q tT tS tO tI tU tN fs){ty:TypeId}{c:List PV}(h:Ty Q ty c) :
  (ty=tT→∃t:Term,c=t.row∧iM t)∧(ty=tS→∃l:List Term,c=[.aW (l.map Term.row)]∧(∀a∈l,iM a)∧l.length≤maxLen):=by
 induction h with
 |bool t b h=>exact⟨fun e=>(by subst e;rw[H.uT]at h;cases h),fun e=>(by subst e;rw[H.uS]at h;cases h)⟩
 |int t k n h=>exact⟨fun e=>(by subst e;rw[H.uT]at h;cases h),fun e=>(by subst e;rw[H.uS]at h;cases h)⟩
 |str t s h=>exact⟨fun e=>(by subst e;rw[H.uT]at h;cases h),fun e=>(by subst e;rw[H.uS]at h;cases h)⟩
 |vu t e h=>exact⟨fun e=>(by subst e;rw[H.uT]at h;cases h),fun e=>(by subst e;rw[H.uS]at h;cases h)⟩
 |ptr t e row h=>exact⟨fun e=>(by subst e;rw[H.uT]at h;cases h),fun e=>(by subst e;rw[H.uS]at h;cases h)⟩
 |array t e n parts h=>exact⟨fun e=>(by subst e;rw[H.uT]at h;cases h),fun e=>(by subst e;rw[H.uS]at h;cases h)⟩
 |aW t e rows h hl hr ih=>
  refine⟨fun e=>(by subst e;rw[H.uT]at h;cases h),fun he=>?_⟩
  subst he;rw[H.uS]at h;injection h with h
  injection h with h
  subst h
  have key:∀rows:List (List PV),(∀r∈rows,∃t:Term,r=t.row∧iM t)→∃l:List Term,rows=l.map Term.row∧∀a∈l,iM a:=by
   intro rows
   induction rows with
   |nil=>intro _;exact⟨[],rfl,by simp⟩
   |cons r rows ihr=>
    intro hx;obtain⟨t,ht,hk⟩:=hx r (by simp)
    obtain⟨l,hl,hk'⟩:=ihr fun x hx'=>hx x (by simp[hx'])
    refine⟨t::l,by simp[ht,hl],fun a ha=>?_⟩
    rcases qL.1 ha with rfl|ha
    ·exact hk
    ·exact hk' a ha
  obtain⟨l,h1,h2⟩:=key rows fun r hr'=>(ih r hr').1 rfl
  refine⟨l,by rw[h1],h2,?_⟩
  rw[h1,bz]at hl;exact hl
 |struct t fs' parts h hl hp ih=>
  refine⟨fun he=>?_,fun e=>(by subst e;rw[H.uS]at h;cases h)⟩
  subst he;rw[H.uT]at h;injection h with h
  injection h with h
  subst h;have hlen:fs.toList.length=5:=by have:=congrArg List.length H.fs;simpa using this
  have hpl:parts.length=5:=by rw[hl];simpa using hlen
  match parts,hpl with
  | [p0,p1,p2,p3,p4],_=>
  have ty:∀(i:Nat) (t:TypeId),[tO,tI,tU,tN,tS][i]?=some t→∃f,fs[i]?=some f∧f.type=t:=by
   intro i t hi;rw[←H.fs,xF,gE]at hi;obtain⟨f,hf,he⟩:=hi;exact⟨f,by simpa using hf,he⟩
  obtain⟨f0,a0,e0⟩:=ty 0 _ rfl;obtain⟨f1,a1,e1⟩:=ty 1 _ rfl;obtain⟨f2,a2,e2⟩:=ty 2 _ rfl;obtain⟨f3,a3,e3⟩:=ty 3 _ rfl;obtain⟨f4,a4,e4⟩:=ty 4 _ rfl;obtain⟨n0,rfl,b0,c0⟩:=I6 H.uO (e0 ▸ hp 0 f0 p0 a0 rfl);obtain⟨n1,rfl,b1,c1⟩:=I6 H.uI (e1 ▸ hp 1 f1 p1 a1 rfl);obtain⟨n2,rfl,b2,c2⟩:=I6 H.uU (e2 ▸ hp 2 f2 p2 a2 rfl);obtain⟨s,rfl,hs⟩:=P1 H.uN (e3 ▸ hp 3 f3 p3 a3 rfl);obtain⟨l,rfl,hall,hll⟩:=(ih 4 f4 p4 a4 rfl).2 e4;refine⟨.mk n0 n1 n2 s l,by simp[Term.row,Term.FJ],.mk _ ⟨b0,c0⟩ ⟨b1,c1⟩ ⟨b2,c2⟩ ?_ ?_ hall⟩
  ·exact hs
  ·exact hll
end
section
variable {Q:Program}
theorem Ov{tS tT:TypeId}{c:List PV}(hu:Q.underlying tS=some (.slice tT))(h:Ty Q tS c):∃rows,c=[.aW rows]∧rows.length≤maxLen∧∀r∈rows,Ty Q tT r:=by
 cases h with
 |aW _ e rows h hl hr=>
  rw[hu]at h;injection h with h
  injection h with h
  subst h;exact⟨rows,rfl,hl,hr⟩
 |bool _ b h=>rw[hu]at h;cases h
 |int _ k' n h h1 h2=>rw[hu]at h;cases h
 |str _ s h=>rw[hu]at h;cases h
 |vu _ e h=>rw[hu]at h;cases h
 |ptr _ e row h=>rw[hu]at h;cases h
 |struct _ fs parts h=>rw[hu]at h;cases h
 |array _ e n parts h=>rw[hu]at h;cases h
theorem ag8{tT tA tB:TypeId}{fs:Array Field}{c:List PV}(hu:Q.underlying tT=some (.struct fs))(hf:fs.toList.map (·.type)=[tA,tB])(h:Ty Q tT c):∃pa pb,c=pa++pb∧Ty Q tA pa∧Ty Q tB pb:=by
 generalize hc:c=c' at h;cases h with
 |struct _ fs' parts h hl hp=>
  rw[hu]at h;injection h with h
  injection h with h
  subst h;have hlen:fs.toList.length=2:=by have:=congrArg List.length hf;simpa using this
  have hpl:parts.length=2:=by rw[hl];simpa using hlen
  match parts,hpl with
  | [p0,p1],_=>
  have ty:∀(i:Nat) (t:TypeId),[tA,tB][i]?=some t→∃f,fs[i]?=some f∧f.type=t:=by
   intro i t hi;rw[←hf,xF,gE]at hi;obtain⟨f,hf,he⟩:=hi;exact⟨f,by simpa using hf,he⟩
  obtain⟨f0,a0,e0⟩:=ty 0 _ rfl;obtain⟨f1,a1,e1⟩:=ty 1 _ rfl;exact⟨p0,p1,by simp,e0 ▸ hp 0 f0 p0 a0 rfl,e1 ▸ hp 1 f1 p1 a1 rfl⟩
 |bool _ b h=>rw[hu]at h;cases h
 |int _ k' n h h1 h2=>rw[hu]at h;cases h
 |str _ s h=>rw[hu]at h;cases h
 |vu _ e h=>rw[hu]at h;cases h
 |ptr _ e row h=>rw[hu]at h;cases h
 |aW _ e rows h=>rw[hu]at h;cases h
 |array _ e n parts h=>rw[hu]at h;cases h
theorem KO{α:Type}(f:α→List PV)(p:α→Prop):∀rows:List (List PV),(∀r∈rows,∃a:α,r=f a∧p a)→∃l:List α,rows=l.map f∧∀a∈l,p a
 | [],_=>⟨[],rfl,by simp⟩
 |r::rows,hx=>by
  obtain⟨t,ht,hk⟩:=hx r (by simp)
  obtain⟨l,hl,hk'⟩:=KO f p rows fun x hx'=>hx x (by simp[hx'])
  refine⟨t::l,by simp[ht,hl],fun a ha=>?_⟩
  rcases qL.1 ha with rfl|ha
  ·exact hk
  ·exact hk' a ha
end
section
variable {Q:Program}
theorem Ou{tT:TypeId}{fs:Array Field}{ts:List TypeId}{c:List PV}(hu:Q.underlying tT=some (.struct fs))(hf:fs.toList.map (·.type)=ts)(h:Ty Q tT c):∃parts:List (List PV),c=parts.flatten∧parts.length=ts.length∧∀(i:Nat) (t:TypeId) (p:List PV),ts[i]?=some t→parts[i]?=some p→Ty Q t p:=by
 generalize hc:c=c' at h;cases h with
 |struct _ fs' parts h hl hp=>
  rw[hu]at h;injection h with h
  injection h with h
  subst h;refine⟨parts,rfl,by rw[hl,←hf];simp,fun i t p hi hp'=>?_⟩
  rw[←hf,xF,gE]at hi;obtain⟨f,hf,he⟩:=hi;exact he ▸ hp i f p (by simpa using hf) hp'
 |bool _ b h=>rw[hu]at h;cases h
 |int _ k' n h h1 h2=>rw[hu]at h;cases h
 |str _ s h=>rw[hu]at h;cases h
 |vu _ e h=>rw[hu]at h;cases h
 |ptr _ e row h=>rw[hu]at h;cases h
 |aW _ e rows h=>rw[hu]at h;cases h
 |array _ e n parts h=>rw[hu]at h;cases h
theorem Zo{tL tA tT tS tO tI tU tN:TypeId}{fs fa:Array Field}(H:Jl Q tT tS tO tI tU tN fs)(hL:Q.underlying tL=some (.slice tA))(hA:Q.underlying tA=some (.struct fa))(hf:fa.toList.map (·.type)=[tN,tT]){c:List PV}(h:Ty Q tL c):∃l:List Atom,c=[.aW (l.map Atom.row)]∧∀a∈l,iM a.pat∧a.root.size≤9223372036854775807:=by
 obtain⟨rows,rfl,_,hr⟩:=Ov hL h
 obtain⟨l,rfl,hp⟩:=KO Atom.row (fun a=>iM a.pat∧a.root.size≤9223372036854775807) rows fun r hx=>by
  obtain⟨pa,pb,rfl,ha,hb⟩:=ag8 hA hf (hr r hx);obtain⟨s,rfl,hs⟩:=P1 H.uN ha;obtain⟨t,rfl,ht⟩:=(Cs H hb).1 rfl;exact⟨⟨s,t⟩,rfl,ht,hs⟩
 exact⟨l,rfl,hp⟩
theorem VW{tL tA tT tS tO tI tU tN:TypeId}{fs fa:Array Field}(H:Jl Q tT tS tO tI tU tN fs)(hL:Q.underlying tL=some (.slice tA))(hA:Q.underlying tA=some (.struct fa))(hf:fa.toList.map (·.type)=[tI,tT,tT]){c:List PV}(h:Ty Q tL c):∃l:List Gd,c=[.aW (l.map Gd.row)]∧∀a∈l,iM a.a∧iM a.b:=by
 obtain⟨rows,rfl,_,hr⟩:=Ov hL h
 obtain⟨l,rfl,hp⟩:=KO Gd.row (fun a=>iM a.a∧iM a.b) rows fun r hx=>by
  obtain⟨parts,rfl,hl,hp⟩:=Ou hA hf (hr r hx)
  match parts,hl with
  | [p0,p1,p2],_=>
  obtain⟨k,rfl,_⟩:=I6 H.uI (hp 0 _ _ rfl rfl);obtain⟨a,rfl,ha⟩:=(Cs H (hp 1 _ _ rfl rfl)).1 rfl;obtain⟨b,rfl,hb⟩:=(Cs H (hp 2 _ _ rfl rfl)).1 rfl;exact⟨⟨k,a,b⟩,by simp[Gd.row],ha,hb⟩
 exact⟨l,rfl,hp⟩
theorem ad3{tR tL tG tA tB tT tS tO tI tU tN:TypeId}{fs fr fa fb:Array Field}(H:Jl Q tT tS tO tI tU tN fs)(hR:Q.underlying tR=some (.struct fr))(hf:fr.toList.map (·.type)=[tN,tL,tT,tG])(hL:Q.underlying tL=some (.slice tA))(hA:Q.underlying tA=some (.struct fa))(hfa:fa.toList.map (·.type)=[tN,tT])(hG:Q.underlying tG=some (.slice tB))(hB:Q.underlying tB=some (.struct fb))(hfb:fb.toList.map (·.type)=[tI,tT,tT]){c:List PV}(h:Ty Q tR c):∃r:ed,c=r.row∧TyR r:=by
 obtain⟨parts,rfl,hl,hp⟩:=Ou hR hf h
 match parts,hl with
 | [p0,p1,p2,p3],_=>
 obtain⟨n,rfl,_⟩:=P1 H.uN (hp 0 _ _ rfl rfl);obtain⟨l,rfl,h1⟩:=Zo H hL hA hfa (hp 1 _ _ rfl rfl);obtain⟨t,rfl,ht⟩:=(Cs H (hp 2 _ _ rfl rfl)).1 rfl;obtain⟨g,rfl,h2⟩:=VW H hG hB hfb (hp 3 _ _ rfl rfl);exact⟨⟨n,l,t,g⟩,by simp[ed.row],⟨h1,ht,h2⟩⟩
end
end Go.AE.S
