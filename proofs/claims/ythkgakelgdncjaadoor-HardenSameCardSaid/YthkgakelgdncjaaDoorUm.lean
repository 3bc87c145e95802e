/- HardenSame: plain mathematics: runs of a program and of the program with barriers. Conditions: as each says. -/
import Derived.Test.YthkgakelgdncjaaDoorVm
import Derived.Test.YthkgakelgdncjaaDoorHq
namespace Go.Proofs.YthkgakelgdncjaaDoor
open Go.Ep Go.RowKit
set_option linter.unusedVariables false
set_option linter.unusedSimpArgs false
noncomputable def stepI (nm:Nat) (de:Bool) (c:WC) (i:IN) (cst pc:BitVec 64) (m:MR) (s:WR):SX:=
 bif isA i.o then ⟨false,(arithV m i.o i.d i.s i.i).1,pc + 1#64,(arithV m i.o i.d i.s i.i).2,s⟩
 else bif i.o==24#8 then (bif i.s==1#8 then ⟨false,0#64,pc + 1#64 + 1#64,(m.set i.d cst false).set i.d (mapV i.i) true,s⟩
  else ⟨false,0#64,pc + 1#64 + 1#64,m.set i.d cst false,s⟩)
 else bif isLx i.o then ⟨false,(loadV m c.own c.co s.r c.cm i.o i.d i.s i.f).1,pc + 1#64,(loadV m c.own c.co s.r c.cm i.o i.d i.s i.f).2,s⟩
 else bif isSt i.o||isSx i.o then ⟨false,(storeV m c.own c.co s.r c.cm i.o i.d i.s i.f i.i).1,pc + 1#64,(storeV m c.own c.co s.r c.cm i.o i.d i.s i.f i.i).2.1,{ s with r:=(storeV m c.own c.co s.r c.cm i.o i.d i.s i.f i.i).2.2 }⟩
 else bif i.o==194#8 then ⟨false,0#64,pc + 1#64,m,s⟩
 else bif codeW i.o==128#64 then ⟨false,(scallR nm de c m s (BitVec.signExtend 64 i.i)).e,pc + 1#64,(scallR nm de c m s (BitVec.signExtend 64 i.i)).m,(scallR nm de c m s (BitVec.signExtend 64 i.i)).s⟩
 else bif endB i.o then (bif m.H 0 then (bif m.T 0 then ⟨true,102#64,pc + 1#64,m,s⟩ else ⟨true,0#64,pc + 1#64,m,s⟩) else ⟨true,101#64,pc + 1#64,m,s⟩)
 else bif alwB i.o then ⟨false,0#64,pc + 1#64 + BitVec.signExtend 64 i.f,m,s⟩
 else bif (valueV m i.o i.s i.i).2.1&&m.H i.d.toNat then
  (bif holdB m i then ⟨false,0#64,pc + 1#64 + BitVec.signExtend 64 i.f,m,s⟩ else ⟨false,0#64,pc + 1#64,m,s⟩)
 else ⟨false,101#64,pc + 1#64,m,s⟩
theorem stepV_I (nm:Nat) (de:Bool) (c:WC) (x:IT) (n:Nat) (pc:BitVec 64) (m:MR) (s:WR):stepV nm de c x n pc m s=stepI nm de c (x pc.toNat) (constV x n pc) pc m s:=rfl
inductive Nx
 | a
 | b
 | j
def nx:Nx→BitVec 64→BitVec 16→BitVec 64
 | .a,pc,_=>pc + 1#64
 | .b,pc,_=>pc + 1#64 + 1#64
 | .j,pc,f=>pc + 1#64 + BitVec.signExtend 64 f
theorem cl_ar:∀ o:BitVec 8,isA o=true→endB o=false∧alwB o=false∧jmpB o=false∧(o==24#8)=false:=by decide +kernel
theorem cl_24:∀ o:BitVec 8,(o==24#8)=true→jmpB o=false:=by decide +kernel
theorem cl_lx:∀ o:BitVec 8,isLx o=true→endB o=false∧alwB o=false∧jmpB o=false∧(o==24#8)=false:=by decide +kernel
theorem cl_st:∀ o:BitVec 8,(isSt o||isSx o)=true→endB o=false∧alwB o=false∧jmpB o=false∧(o==24#8)=false:=by decide +kernel
theorem cl_ns:∀ o:BitVec 8,(o==194#8)=true→endB o=false∧alwB o=false∧jmpB o=false∧(o==24#8)=false:=by decide +kernel
theorem cl_ca:∀ o:BitVec 8,(codeW o==128#64)=true→endB o=false∧alwB o=false∧jmpB o=false:=by decide +kernel
theorem cl_en:∀ o:BitVec 8,endB o=true→jmpB o=false:=by decide +kernel
theorem cl_jm:∀ o:BitVec 8,fK o true=true→isA o=false→(o==24#8)=false→isLx o=false→(isSt o||isSx o)=false→(o==194#8)=false→(codeW o==128#64)=false→endB o=false→jmpB o=true:=by decide +kernel
theorem storeV_ok {m:MR} {own:RT} {co:Nat} {r:RT} {cm:Nat} {o d s:BitVec 8} {f:BitVec 16} {i:BitVec 32} (h:RgOK r cm):RgOK (storeV m own co r cm o d s f i).2.2 cm:=by
 unfold storeV
 split
 · split
   · exact h
   · split
     · exact h
     · split
       · exact h
       · exact writeV_ok h
 · exact h
theorem form (nm:Nat) (de:Bool) (c:WC) (i:IN) (cst:BitVec 64) (m:MR) (s:WR) (hk:fK i.o true=true):∃ d e m' s' w,(∀ pc,stepI nm de c i cst pc m s=⟨d,e,nx w pc i.f,m',s'⟩) ∧
 (jmpB i.o=true→∀ cst' f pc,stepI nm de c { i with f:=f } cst' pc m s=⟨d,e,nx w pc f,m',s'⟩)∧(w= .b→(i.o==24#8)=true)∧(w= .j→jmpB i.o=true)∧(w= .a→d=false→endB i.o=false∧alwB i.o=false∧(i.o==24#8)=false)∧(s.ok c.cm (dmV de c.dm)→c.ok→s'.ok c.cm (dmV de c.dm)):=by
 rcases Bool.eq_false_or_eq_true (isA i.o) with h0 | h0
 · exact ⟨false,(arithV m i.o i.d i.s i.i).1,(arithV m i.o i.d i.s i.i).2,s,Nx.a,fun pc=>by unfold stepI;simp only [h0,cond_true,cond_false,Bool.and_true,Bool.true_and,Bool.and_false,Bool.false_and,Bool.and_self];rfl,fun hj=>absurd ((cl_ar _ h0).2.2.1) (by rw [hj];decide),fun e=>Nx.noConfusion e,fun e=>Nx.noConfusion e,fun _ _=>⟨(cl_ar _ h0).1,(cl_ar _ h0).2.1,(cl_ar _ h0).2.2.2⟩,fun h _=>h⟩
 rcases Bool.eq_false_or_eq_true (i.o==24#8) with h1 | h1
 · rcases Bool.eq_false_or_eq_true (i.s==1#8) with h2 | h2
   · exact ⟨false,0#64,(m.set i.d cst false).set i.d (mapV i.i) true,s,Nx.b,fun pc=>by unfold stepI;simp only [h0,h1,h2,cond_true,cond_false,Bool.and_true,Bool.true_and,Bool.and_false,Bool.false_and,Bool.and_self];rfl,fun hj=>absurd (cl_24 _ h1) (by rw [hj];decide),fun _=>h1,fun e=>Nx.noConfusion e,fun e=>Nx.noConfusion e,fun h _=>h⟩
   · exact ⟨false,0#64,m.set i.d cst false,s,Nx.b,fun pc=>by unfold stepI;simp only [h0,h1,h2,cond_true,cond_false,Bool.and_true,Bool.true_and,Bool.and_false,Bool.false_and,Bool.and_self];rfl,fun hj=>absurd (cl_24 _ h1) (by rw [hj];decide),fun _=>h1,fun e=>Nx.noConfusion e,fun e=>Nx.noConfusion e,fun h _=>h⟩
 rcases Bool.eq_false_or_eq_true (isLx i.o) with h2 | h2
 · exact ⟨false,(loadV m c.own c.co s.r c.cm i.o i.d i.s i.f).1,(loadV m c.own c.co s.r c.cm i.o i.d i.s i.f).2,s,Nx.a,fun pc=>by unfold stepI;simp only [h0,h1,h2,cond_true,cond_false,Bool.and_true,Bool.true_and,Bool.and_false,Bool.false_and,Bool.and_self];rfl,fun hj=>absurd ((cl_lx _ h2).2.2.1) (by rw [hj];decide),fun e=>Nx.noConfusion e,fun e=>Nx.noConfusion e,fun _ _=>⟨(cl_lx _ h2).1,(cl_lx _ h2).2.1,(cl_lx _ h2).2.2.2⟩,fun h _=>h⟩
 rcases Bool.eq_false_or_eq_true (isSt i.o||isSx i.o) with h3 | h3
 · exact ⟨false,(storeV m c.own c.co s.r c.cm i.o i.d i.s i.f i.i).1,(storeV m c.own c.co s.r c.cm i.o i.d i.s i.f i.i).2.1,{ s with r:=(storeV m c.own c.co s.r c.cm i.o i.d i.s i.f i.i).2.2 },Nx.a,fun pc=>by unfold stepI;simp only [h0,h1,h2,h3,cond_true,cond_false,Bool.and_true,Bool.true_and,Bool.and_false,Bool.false_and,Bool.and_self];rfl,fun hj=>absurd ((cl_st _ h3).2.2.1) (by rw [hj];decide),fun e=>Nx.noConfusion e,fun e=>Nx.noConfusion e,fun _ _=>⟨(cl_st _ h3).1,(cl_st _ h3).2.1,(cl_st _ h3).2.2.2⟩,fun h _=>⟨storeV_ok h.1,h.2.1,h.2.2⟩⟩
 rcases Bool.eq_false_or_eq_true (i.o==194#8) with h4 | h4
 · exact ⟨false,0#64,m,s,Nx.a,fun pc=>by unfold stepI;simp only [h0,h1,h2,h3,h4,cond_true,cond_false,Bool.and_true,Bool.true_and,Bool.and_false,Bool.false_and,Bool.and_self];rfl,fun hj=>absurd ((cl_ns _ h4).2.2.1) (by rw [hj];decide),fun e=>Nx.noConfusion e,fun e=>Nx.noConfusion e,fun _ _=>⟨(cl_ns _ h4).1,(cl_ns _ h4).2.1,(cl_ns _ h4).2.2.2⟩,fun h _=>h⟩
 rcases Bool.eq_false_or_eq_true (codeW i.o==128#64) with h5 | h5
 · exact ⟨false,(scallR nm de c m s (BitVec.signExtend 64 i.i)).e,(scallR nm de c m s (BitVec.signExtend 64 i.i)).m,(scallR nm de c m s (BitVec.signExtend 64 i.i)).s,Nx.a,fun pc=>by unfold stepI;simp only [h0,h1,h2,h3,h4,h5,cond_true,cond_false,Bool.and_true,Bool.true_and,Bool.and_false,Bool.false_and,Bool.and_self];rfl,fun hj=>absurd ((cl_ca _ h5).2.2) (by rw [hj];decide),fun e=>Nx.noConfusion e,fun e=>Nx.noConfusion e,fun _ _=>⟨(cl_ca _ h5).1,(cl_ca _ h5).2.1,h1⟩,fun h hc=>scallR_ok h hc⟩
 rcases Bool.eq_false_or_eq_true (endB i.o) with h6 | h6
 · rcases Bool.eq_false_or_eq_true (m.H 0) with h7 | h7
   · rcases Bool.eq_false_or_eq_true (m.T 0) with h8 | h8
     · exact ⟨true,102#64,m,s,Nx.a,fun pc=>by unfold stepI;simp only [h0,h1,h2,h3,h4,h5,h6,h7,h8,cond_true,cond_false,Bool.and_true,Bool.true_and,Bool.and_false,Bool.false_and,Bool.and_self];rfl,fun hj=>absurd (cl_en _ h6) (by rw [hj];decide),fun e=>Nx.noConfusion e,fun e=>Nx.noConfusion e,fun _ e=>Bool.noConfusion e,fun h _=>h⟩
     · exact ⟨true,0#64,m,s,Nx.a,fun pc=>by unfold stepI;simp only [h0,h1,h2,h3,h4,h5,h6,h7,h8,cond_true,cond_false,Bool.and_true,Bool.true_and,Bool.and_false,Bool.false_and,Bool.and_self];rfl,fun hj=>absurd (cl_en _ h6) (by rw [hj];decide),fun e=>Nx.noConfusion e,fun e=>Nx.noConfusion e,fun _ e=>Bool.noConfusion e,fun h _=>h⟩
   · exact ⟨true,101#64,m,s,Nx.a,fun pc=>by unfold stepI;simp only [h0,h1,h2,h3,h4,h5,h6,h7,cond_true,cond_false,Bool.and_true,Bool.true_and,Bool.and_false,Bool.false_and,Bool.and_self];rfl,fun hj=>absurd (cl_en _ h6) (by rw [hj];decide),fun e=>Nx.noConfusion e,fun e=>Nx.noConfusion e,fun _ e=>Bool.noConfusion e,fun h _=>h⟩
 have hJ:=cl_jm _ hk h0 h1 h2 h3 h4 h5 h6
 rcases Bool.eq_false_or_eq_true (alwB i.o) with h7 | h7
 · exact ⟨false,0#64,m,s,Nx.j,fun pc=>by unfold stepI;simp only [h0,h1,h2,h3,h4,h5,h6,h7,cond_true,cond_false,Bool.and_true,Bool.true_and,Bool.and_false,Bool.false_and,Bool.and_self];rfl,fun _ cst' f pc=>by unfold stepI;simp only [h0,h1,h2,h3,h4,h5,h6,h7,cond_true,cond_false,Bool.and_true,Bool.true_and,Bool.and_false,Bool.false_and,Bool.and_self];rfl,fun e=>Nx.noConfusion e,fun _=>hJ,fun e=>Nx.noConfusion e,fun h _=>h⟩
 rcases Bool.eq_false_or_eq_true ((valueV m i.o i.s i.i).2.1) with h8 | h8
 · rcases Bool.eq_false_or_eq_true (m.H i.d.toNat) with h9 | h9
   · rcases Bool.eq_false_or_eq_true (rHolds (BitVec.signExtend 8 (codeW i.o)) (i.o % 8#8==5#8) (m.R i.d.toNat) (valueV m i.o i.s i.i).1) with hh | hh
     · exact ⟨false,0#64,m,s,Nx.j,fun pc=>by unfold stepI;simp only [h0,h1,h2,h3,h4,h5,h6,h7,h8,h9,holdB,hh,cond_true,cond_false,Bool.and_true,Bool.true_and,Bool.and_false,Bool.false_and,Bool.and_self];rfl,fun _ cst' f pc=>by unfold stepI;simp only [h0,h1,h2,h3,h4,h5,h6,h7,h8,h9,holdB,hh,cond_true,cond_false,Bool.and_true,Bool.true_and,Bool.and_false,Bool.false_and,Bool.and_self];rfl,fun e=>Nx.noConfusion e,fun _=>hJ,fun e=>Nx.noConfusion e,fun h _=>h⟩
     · exact ⟨false,0#64,m,s,Nx.a,fun pc=>by unfold stepI;simp only [h0,h1,h2,h3,h4,h5,h6,h7,h8,h9,holdB,hh,cond_true,cond_false,Bool.and_true,Bool.true_and,Bool.and_false,Bool.false_and,Bool.and_self];rfl,fun _ cst' f pc=>by unfold stepI;simp only [h0,h1,h2,h3,h4,h5,h6,h7,h8,h9,holdB,hh,cond_true,cond_false,Bool.and_true,Bool.true_and,Bool.and_false,Bool.false_and,Bool.and_self];rfl,fun e=>Nx.noConfusion e,fun e=>Nx.noConfusion e,fun _ _=>⟨h6,h7,h1⟩,fun h _=>h⟩
   · exact ⟨false,101#64,m,s,Nx.a,fun pc=>by unfold stepI;simp only [h0,h1,h2,h3,h4,h5,h6,h7,h8,h9,cond_true,cond_false,Bool.and_true,Bool.true_and,Bool.and_false,Bool.false_and,Bool.and_self];rfl,fun _ cst' f pc=>by unfold stepI;simp only [h0,h1,h2,h3,h4,h5,h6,h7,h8,h9,cond_true,cond_false,Bool.and_true,Bool.true_and,Bool.and_false,Bool.false_and,Bool.and_self];rfl,fun e=>Nx.noConfusion e,fun e=>Nx.noConfusion e,fun _ _=>⟨h6,h7,h1⟩,fun h _=>h⟩
 · exact ⟨false,101#64,m,s,Nx.a,fun pc=>by unfold stepI;simp only [h0,h1,h2,h3,h4,h5,h6,h7,h8,cond_true,cond_false,Bool.and_true,Bool.true_and,Bool.and_false,Bool.false_and,Bool.and_self];rfl,fun _ cst' f pc=>by unfold stepI;simp only [h0,h1,h2,h3,h4,h5,h6,h7,h8,cond_true,cond_false,Bool.and_true,Bool.true_and,Bool.and_false,Bool.false_and,Bool.and_self];rfl,fun e=>Nx.noConfusion e,fun e=>Nx.noConfusion e,fun _ _=>⟨h6,h7,h1⟩,fun h _=>h⟩
def runF (step:BitVec 64→MR→WR→SX):Nat→Nat→BitVec 64→MR→WR→BitVec 64×BitVec 64×BitVec 64×WR
 | 0,t,pc,m,s=>(0#64,0#64,100#64,s)
 | f + 1,t,pc,m,s=>bif (step pc m s).e != 0#64 then (0#64,0#64,(step pc m s).e,(step pc m s).s) else bif (step pc m s).d then ((step pc m s).m.R 0,BitVec.ofNat 64 (t + 1),0#64,(step pc m s).s) else runF step f (t + 1) (step pc m s).pc (step pc m s).m (step pc m s).s
def normW (nm:Nat) (de:Bool) (s:WR):WR:=⟨s.r,match nm with
 | 2=>s.k1
 | _=>fun _=>⟨#[]⟩,match de with
 | true=>0
 | false=>s.dk,match de with
 | true=>0
 | false=>s.ds,match de with
 | true=>0
 | false=>s.dn⟩
theorem normW_2 (nm:Nat) (de:Bool) (s:WR):normW nm de (normW nm de s)=normW nm de s:=by
 unfold normW
 rcases nm with _ | _ | _ | nm<;>cases de<;>rfl
theorem normW_ok {nm:Nat} {de:Bool} {s:WR} {cm dm:Nat} (h:s.ok cm (dmV de dm)):(normW nm de s).ok cm (dmV de dm):=by
 cases de
 · exact ⟨h.1,h.2.1,h.2.2⟩
 · exact ⟨h.1,rfl,Nat.zero_le _⟩
noncomputable def stepN (nm:Nat) (de:Bool) (c:WC) (x:IT) (n:Nat) (pc:BitVec 64) (m:MR) (s:WR):SX:=
 ⟨(stepV nm de c x n pc m (normW nm de s)).d,(stepV nm de c x n pc m (normW nm de s)).e,(stepV nm de c x n pc m (normW nm de s)).pc,(stepV nm de c x n pc m (normW nm de s)).m,normW nm de (stepV nm de c x n pc m (normW nm de s)).s⟩
theorem stepN_eq {nm:Nat} {de:Bool} {c:WC} {x:IT} {n:Nat} {pc:BitVec 64} {m:MR} {s t:WR} (h:normW nm de s=normW nm de t):stepN nm de c x n pc m s=stepN nm de c x n pc m t:=by unfold stepN;rw [h]
theorem stepN_of {nm:Nat} {de:Bool} {c:WC} {x:IT} {n:Nat} {pc:BitVec 64} {m:MR} {s:WR} {q:SX} (h:stepV nm de c x n pc m (normW nm de s)=q):stepN nm de c x n pc m s=⟨q.d,q.e,q.pc,q.m,normW nm de q.s⟩:=by unfold stepN;rw [h]
theorem iC_f {o d s:BitVec 8} {f:BitVec 16} {i:BitVec 32} {w:Bool} (h:iCheck o d s f i w=0#64):fK o w=true∧d.toNat<11∧s.toNat<11:=by
 unfold iCheck at h
 cases h1:fK o w with
 | false=>rw [h1,if_pos (by decide)] at h;exact absurd h (by decide)
 | true=>
   rw [h1,if_neg (by decide)] at h
   refine ⟨rfl,?_⟩
   split at h
   · exact absurd h (by decide)
   · rename_i h2
     simp only [Bool.or_eq_true,not_or,BitVec.ult,decide_eq_true_eq] at h2
     have e:(10#8).toNat=10:=rfl
     rw [e] at h2
     omega
theorem fK_t {o:BitVec 8} (h:fK o false=true):fK o true=true:=by
 revert o;decide +kernel
section
variable {x : IT} {n ns : Nat} {st : Nat → Bool} {m : BitVec 64} (G : Good x n m false)
include G
theorem ins_ok {k:Nat} (hk:k<n) (h:hf x k=false):fK (x k).o true=true∧(x k).d.toNat<11∧(x k).s.toNat<11:=by
 have h64:=n64 G
 have ha:=alone_i (by omega) (G.alone k hk h)
 have:=iC_f ha
 exact ⟨fK_t this.1,this.2⟩
theorem go_a {k:Nat} (hk:k<n) (h:hf x k=false) (he:endB (x k).o=false) (ha:alwB (x k).o=false) (h24:((x k).o==24#8)=false):k + 1<n∧hf x (k + 1)=false∧posO (barB x n st ns) k + 1=lenO (barB x n st ns) (k + 1):=by
 have h1:=fall_lt G.ways hk h he ha
 have h2:=hf_next x h
 unfold szN at h1 h2
 rw [if_neg (by rw [h24];decide)] at h1 h2
 exact ⟨h1,h2,(len_pos _ _).symm⟩
theorem go_b {k:Nat} (hk:k<n) (h:hf x k=false) (h24:((x k).o==24#8)=true):k + 2<n∧hf x (k + 2)=false∧hf x (k + 1)=true∧posO (barB x n st ns) (k + 1)=posO (barB x n st ns) k + 1∧posO (barB x n st ns) k + 2=lenO (barB x n st ns) (k + 2):=by
 have e3:(x k).o=24#8:=eq_of_beq h24
 have h1:=fall_lt G.ways hk h (by rw [e3];decide) (by rw [e3];decide)
 have h2:=hf_next x h
 unfold szN at h1 h2
 rw [if_pos h24] at h1 h2
 have hh:hf x (k + 1)=true:=by rw [hf,h,h24];rfl
 have hb1:=bar_half (st:=st) (ns:=ns) G (show k + 1<n by omega) hh
 have hq:posO (barB x n st ns) (k + 1)=posO (barB x n st ns) k + 1:=by rw [pos_f hb1,len_pos]
 have:=len_pos (barB x n st ns) (k + 1)
 exact ⟨h1,h2,hh,hq,by show _=lenO _ (k + 1 + 1);omega⟩
theorem cst_y {k:Nat} (hk:k<n) (h:hf x k=false) (h24:((x k).o==24#8)=true):constV (out2 x (barB x n st ns) n (lenO (barB x n st ns) n)) (lenO (barB x n st ns) n) (bv (posO (barB x n st ns) k))=constV x n (bv k):=by
 have hN:=N_le (st:=st) (ns:=ns) G
 have h64:=n64 G
 have hp:=pos_lt (barB x n st ns) hk
 obtain ⟨g1,g2,g3,g4,g5⟩:=go_b (st:=st) (ns:=ns) G hk h h24
 have hl:=len_mono (barB x n st ns) (show k + 2≤n by omega)
 have np:(bv (posO (barB x n st ns) k)).toNat=posO (barB x n st ns) k:=nat_ofNat (by omega)
 have np1:(bv (posO (barB x n st ns) k) + 1#64).toNat=posO (barB x n st ns) (k + 1):=by rw [nat1 (n:=8000) (by omega) (by rw [np];omega),np,g4]
 have nk:(bv k).toNat=k:=nat_ofNat (by omega)
 have nk1:(bv k + 1#64).toNat=k + 1:=by rw [nat1 (n:=8000) (by omega) (by rw [nk];omega),nk]
 have c1:∀ {a b:Nat},b≤8000→a + 1<b→(BitVec.ofNat 64 b - 1#64).sle (bv a)=false:=fun {a b} hb hab=>by
  have e:(BitVec.ofNat 64 b - 1#64)=BitVec.ofNat 64 (b - 1):=by
   apply BitVec.eq_of_toNat_eq
   rw [BitVec.toNat_sub,BitVec.toNat_ofNat,BitVec.toNat_ofNat]
   simp;omega
  rw [e,sle_nat (by omega) (by omega)]
  exact decide_eq_false (by omega)
 unfold constV
 rw [c1 (by omega) (by omega),c1 (a:=k) (b:=n) (by omega) (by omega),np,np1,nk,nk1]
 rw [y_same G hk (.inr (cl_24 _ h24)),y_same G (show k + 1<n by omega) (.inl g3)]
theorem step_rel (nm:Nat) (de:Bool) (c:WC) (mr:MR) (s:WR) {k:Nat} (hk:k<n) (h:hf x k=false):∃ d e m' s' pa pb,stepV nm de c x n (bv k) mr s=⟨d,e,pa,m',s'⟩∧stepV nm de c (out2 x (barB x n st ns) n (lenO (barB x n st ns) n)) (lenO (barB x n st ns) n) (bv (posO (barB x n st ns) k)) mr s=⟨d,e,pb,m',s'⟩ ∧
 (d=false→∃ k',k'<n∧hf x k'=false∧pa=bv k'∧pb=bv (lenO (barB x n st ns) k')):=by
 have hN:=N_le (st:=st) (ns:=ns) G
 have h64:=n64 G
 have hp:=pos_lt (barB x n st ns) hk
 have np:(bv (posO (barB x n st ns) k)).toNat=posO (barB x n st ns) k:=nat_ofNat (by omega)
 have nk:(bv k).toNat=k:=nat_ofNat (by omega)
 obtain ⟨d,e,m',s',w,f1,f2,f3,f4,f5,-⟩:=form nm de c (x k) (constV x n (bv k)) mr s (ins_ok G hk h).1
 cases hj:jmpB (x k).o with
 | true=>
   refine ⟨d,e,m',s',_,_,by rw [stepV_I,nk];exact f1 _,by rw [stepV_I,np,y_jmp G hk h hj];exact f2 hj _ _ _,fun hd=> ?_⟩
   cases w with
   | a=>
     obtain ⟨q1,q2,q3⟩:=f5 rfl hd
     obtain ⟨g1,g2,g3⟩:=go_a (st:=st) (ns:=ns) G hk h q1 q2 q3
     exact ⟨k + 1,g1,g2,(BitVec.ofNat_add ..).symm,by rw [← g3];exact (BitVec.ofNat_add ..).symm⟩
   | b=>exact absurd hj (by rw [cl_24 _ (f3 rfl)];decide)
   | j=>
     obtain ⟨t1,t2,t3,t4⟩:=toV_lt G.ways hk h hj
     have ht:=toV_y (st:=st) (ns:=ns) G hk h hj
     unfold toV at ht
     rw [np,y_jmp G hk h hj] at ht
     refine ⟨(toV x (bv k)).toNat,t1,t2,?_,ht⟩
     have q:bv (toV x (bv k)).toNat=toV x (bv k):=BitVec.eq_of_toNat_eq (by rw [BitVec.toNat_ofNat,Nat.mod_eq_of_lt (toV x (bv k)).isLt])
     rw [q]
     unfold toV
     rw [nk];rfl
 | false=>
   have hs:=y_same (st:=st) (ns:=ns) G hk (.inr hj)
   have hc:stepV nm de c (out2 x (barB x n st ns) n (lenO (barB x n st ns) n)) (lenO (barB x n st ns) n) (bv (posO (barB x n st ns) k)) mr s=stepI nm de c (x k) (constV x n (bv k)) (bv (posO (barB x n st ns) k)) mr s:=by
    rw [stepV_I,np,hs]
    cases h24:((x k).o==24#8) with
    | true=>rw [cst_y G hk h h24]
    | false=>unfold stepI;simp only [h24,cond_false]
   refine ⟨d,e,m',s',_,_,by rw [stepV_I,nk];exact f1 _,by rw [hc];exact f1 _,fun hd=> ?_⟩
   cases w with
   | a=>
     obtain ⟨q1,q2,q3⟩:=f5 rfl hd
     obtain ⟨g1,g2,g3⟩:=go_a (st:=st) (ns:=ns) G hk h q1 q2 q3
     exact ⟨k + 1,g1,g2,(BitVec.ofNat_add ..).symm,by rw [← g3];exact (BitVec.ofNat_add ..).symm⟩
   | b=>
     obtain ⟨g1,g2,g3,g4,g5⟩:=go_b (st:=st) (ns:=ns) G hk h (f3 rfl)
     refine ⟨k + 2,g1,g2,?_,?_⟩
     · show bv k + 1#64 + 1#64=bv (k + 2)
       rw [BitVec.add_assoc];exact (BitVec.ofNat_add ..).symm
     · rw [← g5]
       show bv (posO (barB x n st ns) k) + 1#64 + 1#64=bv (posO (barB x n st ns) k + 2)
       rw [BitVec.add_assoc];exact (BitVec.ofNat_add ..).symm
   | j=>exact absurd (f4 rfl) (by rw [hj];decide)
theorem step_bar (nm:Nat) (de:Bool) (c:WC) (mr:MR) (s:WR) {k:Nat} (hk:k<n) (hb:barB x n st ns k=true):stepV nm de c (out2 x (barB x n st ns) n (lenO (barB x n st ns) n)) (lenO (barB x n st ns) n) (bv (lenO (barB x n st ns) k)) mr s=⟨false,0#64,bv (posO (barB x n st ns) k),mr,s⟩:=by
 have hN:=N_le (st:=st) (ns:=ns) G
 have hp:=len_lt (barB x n st ns) hk
 have np:(bv (lenO (barB x n st ns) k)).toNat=lenO (barB x n st ns) k:=nat_ofNat (by omega)
 rw [stepV_I,np,y_bar G hk hb,pos_t hb]
 show SX.mk false 0#64 (bv (lenO (barB x n st ns) k) + 1#64) mr s=_
 rw [show bv (lenO (barB x n st ns) k) + 1#64=bv (lenO (barB x n st ns) k + 1) from (BitVec.ofNat_add ..).symm]
theorem run_rel (nm:Nat) (de:Bool) (c:WC):∀ (f1 f2 t1 t2 k:Nat) (mr:MR) (s z:WR),normW nm de s=normW nm de z→k<n→hf x k=false→2*f1≤f2→t1≤t2→(runF (stepN nm de c x n) f1 t1 (bv k) mr s).2.2.1≠100#64 →
 (runF (stepN nm de c (out2 x (barB x n st ns) n (lenO (barB x n st ns) n)) (lenO (barB x n st ns) n)) f2 t2 (bv (lenO (barB x n st ns) k)) mr z).2.2.1=(runF (stepN nm de c x n) f1 t1 (bv k) mr s).2.2.1∧(runF (stepN nm de c (out2 x (barB x n st ns) n (lenO (barB x n st ns) n)) (lenO (barB x n st ns) n)) f2 t2 (bv (lenO (barB x n st ns) k)) mr z).1=(runF (stepN nm de c x n) f1 t1 (bv k) mr s).1∧∃ u1 u2,(runF (stepN nm de c x n) f1 t1 (bv k) mr s).2.1=BitVec.ofNat 64 u1∧(runF (stepN nm de c (out2 x (barB x n st ns) n (lenO (barB x n st ns) n)) (lenO (barB x n st ns) n)) f2 t2 (bv (lenO (barB x n st ns) k)) mr z).2.1=BitVec.ofNat 64 u2∧u1≤u2∧u2≤t2 + f2
 | 0,f2,t1,t2,k,mr,s,z,hz,hk,h,hf,ht,hb=>absurd rfl hb
 | f1 + 1,f2,t1,t2,k,mr,s,z,hz,hk,h,hf,ht,hb=>by
   have key:∀ f2 t2 z,normW nm de s=normW nm de z→2*f1 + 1≤f2→t1≤t2 →
    (runF (stepN nm de c (out2 x (barB x n st ns) n (lenO (barB x n st ns) n)) (lenO (barB x n st ns) n)) f2 t2 (bv (posO (barB x n st ns) k)) mr z).2.2.1=(runF (stepN nm de c x n) (f1 + 1) t1 (bv k) mr s).2.2.1∧(runF (stepN nm de c (out2 x (barB x n st ns) n (lenO (barB x n st ns) n)) (lenO (barB x n st ns) n)) f2 t2 (bv (posO (barB x n st ns) k)) mr z).1=(runF (stepN nm de c x n) (f1 + 1) t1 (bv k) mr s).1∧∃ u1 u2,(runF (stepN nm de c x n) (f1 + 1) t1 (bv k) mr s).2.1=BitVec.ofNat 64 u1∧(runF (stepN nm de c (out2 x (barB x n st ns) n (lenO (barB x n st ns) n)) (lenO (barB x n st ns) n)) f2 t2 (bv (posO (barB x n st ns) k)) mr z).2.1=BitVec.ofNat 64 u2∧u1≤u2∧u2≤t2 + f2:=fun f2 t2 z hz hf2 ht2=>by
    obtain ⟨d,e,m',s',pa,pb,ea,eb,hn⟩:=step_rel (st:=st) (ns:=ns) G nm de c mr (normW nm de s) hk h
    obtain ⟨g2,rfl⟩:∃ g,f2=g + 1:=⟨f2 - 1,by omega⟩
    have ea:=stepN_of ea
    have eb:=(stepN_eq hz.symm).trans (stepN_of eb)
    simp only [runF,ea] at hb ⊢
    simp only [eb]
    cases he:e != 0#64 with
    | true=>simp only [cond_true];exact ⟨trivial,trivial,0,0,rfl,rfl,Nat.le_refl _,Nat.zero_le _⟩
    | false=>
      rw [he] at hb
      simp only [cond_false] at hb ⊢
      cases d with
      | true=>simp only [cond_true];exact ⟨trivial,trivial,t1 + 1,t2 + 1,rfl,rfl,by omega,by omega⟩
      | false=>
        simp only [cond_false] at hb ⊢
        obtain ⟨k',hk',hh',rfl,rfl⟩:=hn rfl
        obtain ⟨r1,r2,u1,u2,r3,r4,r5,r6⟩:=run_rel nm de c f1 g2 (t1 + 1) (t2 + 1) k' m' (normW nm de s') (normW nm de s') rfl hk' hh' (by omega) (by omega) hb
        exact ⟨r1,r2,u1,u2,r3,r4,r5,by omega⟩
   cases hbk:barB x n st ns k with
   | false=>rw [← pos_f hbk];exact key f2 t2 z hz (by omega) ht
   | true=>
     obtain ⟨g2,rfl⟩:∃ g,f2=g + 1:=⟨f2 - 1,by omega⟩
     obtain ⟨r1,r2,u1,u2,r3,r4,r5,r6⟩:=key g2 (t2 + 1) (normW nm de (normW nm de z)) (by rw [normW_2,normW_2];exact hz) (by omega) (by omega)
     have e0:runF (stepN nm de c (out2 x (barB x n st ns) n (lenO (barB x n st ns) n)) (lenO (barB x n st ns) n)) (g2 + 1) t2 (bv (lenO (barB x n st ns) k)) mr z=runF (stepN nm de c (out2 x (barB x n st ns) n (lenO (barB x n st ns) n)) (lenO (barB x n st ns) n)) g2 (t2 + 1) (bv (posO (barB x n st ns) k)) mr (normW nm de (normW nm de z)):=by
      rw [runF,stepN_of (step_bar G nm de c mr (normW nm de z) hk hbk)]
      simp only [show ((0#64 != 0#64)=false) from rfl,cond_false]
     rw [e0]
     exact ⟨r1,r2,u1,u2,r3,r4,r5,by omega⟩
end
section
variable {x : IT} {n : Nat} {m : BitVec 64} {w : Bool} (G : Good x n m w)
include G
theorem n192:n≤192:=Nat.le_trans G.most (by cases w<;>decide)
theorem ins_w {k:Nat} (hk:k<n) (h:hf x k=false):fK (x k).o true=true∧(x k).d.toNat<11∧(x k).s.toNat<11:=by
 have h1:=n192 G
 have ha:=alone_i (by omega) (G.alone k hk h)
 have:=iC_f ha
 refine ⟨?_,this.2⟩
 cases w with
 | true=>exact this.1
 | false=>exact fK_t this.1
theorem step_pc (nm:Nat) (de:Bool) (c:WC) (mr:MR) (s:WR) {k:Nat} (hk:k<n) (h:hf x k=false):((stepV nm de c x n (bv k) mr s).d=false→∃ k',k'<n∧hf x k'=false∧(stepV nm de c x n (bv k) mr s).pc=bv k')∧(s.ok c.cm (dmV de c.dm)→c.ok→(stepV nm de c x n (bv k) mr s).s.ok c.cm (dmV de c.dm)):=by
 have h1:=n192 G
 have nk:(bv k).toNat=k:=nat_ofNat (by omega)
 obtain ⟨d,e,m',s',w',f1,f2,f3,f4,f5,f6⟩:=form nm de c (x k) (constV x n (bv k)) mr s (ins_w G hk h).1
 have e:stepV nm de c x n (bv k) mr s=⟨d,e,nx w' (bv k) (x k).f,m',s'⟩:=by rw [stepV_I,nk];exact f1 _
 rw [e]
 refine ⟨fun hd=> ?_,f6⟩
 cases w' with
 | a=>
   obtain ⟨q1,q2,q3⟩:=f5 rfl hd
   have h1:=fall_lt G.ways hk h q1 q2
   have h2:=hf_next x h
   unfold szN at h1 h2
   rw [if_neg (by rw [q3];decide)] at h1 h2
   exact ⟨k + 1,h1,h2,(BitVec.ofNat_add ..).symm⟩
 | b=>
   have h24:=f3 rfl
   have e3:(x k).o=24#8:=eq_of_beq h24
   have h1:=fall_lt G.ways hk h (by rw [e3];decide) (by rw [e3];decide)
   have h2:=hf_next x h
   unfold szN at h1 h2
   rw [if_pos h24] at h1 h2
   refine ⟨k + 2,h1,h2,?_⟩
   show bv k + 1#64 + 1#64=bv (k + 2)
   rw [BitVec.add_assoc];exact (BitVec.ofNat_add ..).symm
 | j=>
   obtain ⟨t1,t2,t3,t4⟩:=toV_lt G.ways hk h (f4 rfl)
   refine ⟨(toV x (bv k)).toNat,t1,t2,?_⟩
   have q:bv (toV x (bv k)).toNat=toV x (bv k):=BitVec.eq_of_toNat_eq (by rw [BitVec.toNat_ofNat,Nat.mod_eq_of_lt (toV x (bv k)).isLt])
   rw [q]
   unfold toV
   rw [nk];rfl
theorem stepN_pc (nm:Nat) (de:Bool) (c:WC) (mr:MR) (s:WR) {k:Nat} (hk:k<n) (h:hf x k=false):((stepN nm de c x n (bv k) mr s).d=false→∃ k',k'<n∧hf x k'=false∧(stepN nm de c x n (bv k) mr s).pc=bv k')∧(s.ok c.cm (dmV de c.dm)→c.ok→(stepN nm de c x n (bv k) mr s).s.ok c.cm (dmV de c.dm)):=
 ⟨(step_pc G nm de c mr (normW nm de s) hk h).1,fun hs hc=>normW_ok ((step_pc G nm de c mr (normW nm de s) hk h).2 (normW_ok hs) hc)⟩
end
section
variable {step : BitVec 64 → MR → WR → SX} {most : BitVec 64} {t : Nat} {pc : BitVec 64} {m : MR} {s : WR} {Z : BitVec 64 × BitVec 64 × BitVec 64 × WR}
theorem t_lt (ht:t≤most.toNat) (hm:most.toNat≤4000):(BitVec.ofNat 64 t).slt most=decide (t<most.toNat):=by
 have e:most=BitVec.ofNat 64 most.toNat:=BitVec.eq_of_toNat_eq (by rw [BitVec.toNat_ofNat,Nat.mod_eq_of_lt most.isLt])
 obtain ⟨k,hk,rfl⟩:∃ k,most.toNat=k∧most=BitVec.ofNat 64 k:=⟨_,rfl,e⟩
 rw [hk] at ht hm ⊢
 exact slt_nat (by omega) (by omega)
theorem rn_end (h:runF step (most.toNat - t) t pc m s=Z) (ht:t≤most.toNat) (hm:most.toNat≤4000) (hc:(BitVec.ofNat 64 t).slt most=false):(0#64,0#64,100#64,s)=Z:=by
 rw [t_lt ht hm,decide_eq_false_iff_not] at hc
 rw [show most.toNat - t=0 by omega] at h
 exact h
theorem rn_suc (h:runF step (most.toNat - t) t pc m s=Z) (ht:t≤most.toNat) (hm:most.toNat≤4000) (hc:(BitVec.ofNat 64 t).slt most=true):t + 1≤most.toNat∧runF step (most.toNat - (t + 1) + 1) t pc m s=Z:=by
 rw [t_lt ht hm,decide_eq_true_eq] at hc
 rw [show most.toNat - t=most.toNat - (t + 1) + 1 by omega] at h
 exact ⟨hc,h⟩
theorem rn_err (h:runF step (most.toNat - t) t pc m s=Z) (ht:t≤most.toNat) (hm:most.toNat≤4000) (hc:(BitVec.ofNat 64 t).slt most=true) (he:((step pc m s).e != 0#64)=true):(0#64,0#64,(step pc m s).e,(step pc m s).s)=Z:=by
 have h:=(rn_suc h ht hm hc).2
 simp only [runF,he,cond_true] at h
 exact h
theorem rn_fin (h:runF step (most.toNat - t) t pc m s=Z) (ht:t≤most.toNat) (hm:most.toNat≤4000) (hc:(BitVec.ofNat 64 t).slt most=true) (he:((step pc m s).e != 0#64)=false) (hd:(step pc m s).d=true):((step pc m s).m.R 0,BitVec.ofNat 64 t + 1#64,0#64,(step pc m s).s)=Z:=by
 have h:=(rn_suc h ht hm hc).2
 simp only [runF,he,hd,cond_true,cond_false] at h
 rw [BitVec.ofNat_add] at h
 exact h
theorem rn_go (h:runF step (most.toNat - t) t pc m s=Z) (ht:t≤most.toNat) (hm:most.toNat≤4000) (hc:(BitVec.ofNat 64 t).slt most=true) (he:((step pc m s).e != 0#64)=false) (hd:(step pc m s).d=false):t + 1≤most.toNat∧runF step (most.toNat - (t + 1)) (t + 1) (step pc m s).pc (step pc m s).m (step pc m s).s=Z:=by
 have h1:=(rn_suc h ht hm hc).1
 have h:=(rn_suc h ht hm hc).2
 simp only [runF,he,hd,cond_false] at h
 exact ⟨h1,h⟩
end
end Go.Proofs.YthkgakelgdncjaaDoor
