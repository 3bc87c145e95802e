/- HardenSame: the document's memory, made (a packet is there). Conditions: as typed. -/
import Derived.Test.YthkgakelgdncjaaDoorMj
namespace Go.Proofs.YthkgakelgdncjaaDoor
open Go.Ep Go.RowKit
set_option linter.unusedVariables false
set_option linter.unusedSimpArgs false
set_option maxRecDepth 100000 in
set_option maxHeartbeats 16000000 in
theorem Mem_00 (T:TypeId) (r:RT) (p:Nat) (H:(0<p∧p≤100)∧((r 0).b=65536#64∧(r 0).d.size=16)∧((r 1).b=65552#64∧(r 1).d.size=8)∧((r 2).b=131072#64∧(r 2).d.size=512)∧((r 3).b=196608#64∧(r 3).d.size=p)∧((r 4).b=262144#64∧(r 4).d.size=128)) :
 FI Tryd.prog C_q Tryd.f33 1 [.one (.rsl 0 5)] [(0,.row T 3 5 (rgF r))] (OutN [(0,.row T 3 5 (rgF r))] (.tup [(false,[.ptr 1 0]),(false,[.b64 true 0#64])]) [.cells 109 [.rsl 2 5],.row 76 3 5 (rgF (jR 4 (jR 3 (jR 2 (jR 1 (oneR (r 0)) (oneR (r 1))) (oneR (r 2))) (oneR (r 3))) (oneR (r 4))))]):=by
 obtain ⟨⟨hp0,hp2⟩,⟨b0,s0⟩,⟨b1,s1⟩,⟨b2,s2⟩,⟨b3,s3⟩,⟨b4,s4⟩⟩:=H
 repeat' (first
  | (with_reducible refine Given.ok (by decide) ?_)
  | (with_reducible apply Given.mk;intro h;(try simp only [b0,s0,b1,s1,b2,s2,b3,s3,b4,s4,apartB,Nat.reduceAdd,Nat.reduceLeDiff,Nat.reduceSub,BitVec.reduceAdd,BitVec.reduceSub,BitVec.reduceMul,BitVec.reduceToNat,BitVec.reduceULE,BitVec.reduceULT,BitVec.reduceSLT,BitVec.reduceBEq,BitVec.reduceBNe,BitVec.reduceOfNat,pk_0 hp2 (Nat.pos_iff_ne_zero.1 hp0),pk_m hp2,pk_1 hp2,pk_2 hp2,pk_3 hp2,if_true,if_false,Bool.false_eq_true,Bool.true_and,Bool.false_and,Bool.and_true,Bool.and_false,Bool.true_or,Bool.or_true,Bool.false_or,Bool.or_false,reduceIte,bne_self_eq_false,Bool.not_true,Bool.not_false,Bool.true_beq,Bool.false_beq] at h);(try exact absurd h (by decide)))
  | ((conv=>whnf);first
    | with_reducible apply Both.mk
    | refine LoopP.times 8 ?_))
 all_goals first
  | ((with_reducible apply Ob.mk);first | omega | (simp only [BitVec.reduceAdd,BitVec.reduceToNat,s0,s1,s2,s3,s4];exact ⟨by omega,by omega⟩) | (simp only [BitVec.reduceAdd,BitVec.reduceToNat,s0,s1,s2,s3,s4];omega) | (simp only [byt8,catB_size,rs_size];exact ⟨by omega,by omega⟩) | (simp only [byt8,catB_size,rs_size,jR,g0,g1,oR,zB,Nat.reduceAdd,Nat.reduceLeDiff,Nat.reduceSub,BitVec.reduceAdd,BitVec.reduceToNat,if_true,if_false,reduceIte];exact ⟨by omega,by omega⟩) | (simp only [byt8,catB_size,rs_size];exact ⟨by decide,by omega⟩) | (simp only [byt8,catB_size,rs_size];exact ⟨by omega,by decide⟩) | (simp only [byt8,catB_size,rs_size];exact ⟨by decide,by decide⟩) | exact fun _=>rfl | exact ⟨fun _=>rfl,hd0⟩ | exact ⟨fun _=>rfl,by decide⟩ | exact ⟨(fun j=>by rcases j with _ | _ | j<;>rfl),by decide⟩ | exact ⟨rfl,fun _=>rfl,fun _=>rfl⟩ | ((show (_:List L)=mapL);kernel_rfl) | ((show innerB _ _=true);kernel_rfl) | ((show (_:Ep.S)=_);kernel_rfl) | exact (fun j=>by rcases j with _ | _ | j<;>rfl) | decide | ((show Region.preF _ _=true);kernel_rfl) | ((show Region.tailB _ _=true);kernel_rfl) | ((show Region.lexB _ _=true);kernel_rfl))
  | (with_reducible apply Ob.mk)
  | ((conv=>whnf);exact ⟨[10,95],rfl,rfl,fun b hb=>(by simp only [List.mem_cons,List.mem_nil_iff,or_false] at hb;rcases hb with rfl | rfl<;>exact ⟨rfl,rfl⟩),rfl,fun _ _ h=>(by first | exact look_q rfl h | exact look_q' rfl h),by kernel_rfl,by kernel_rfl,trivial⟩)
  | ((conv=>whnf);skip)
set_option maxRecDepth 100000 in
set_option maxHeartbeats 16000000 in
theorem Mem_10 (T:TypeId) (r:RT) (p:Nat) (H:(0<p∧p≤100)∧((r 0).b=65536#64∧(r 0).d.size=16)∧((r 1).b=65552#64∧(r 1).d.size=8)∧((r 2).b=131072#64∧(r 2).d.size=512)∧((r 3).b=196608#64∧(r 3).d.size=p)∧((r 4).b=1048576#64∧(r 4).d.size=32)∧((r 5).b=262144#64∧(r 5).d.size=128)) :
 FI Tryd.prog C_q Tryd.f33 1 [.one (.rsl 0 6)] [(0,.row T 3 6 (rgF r))] (OutN [(0,.row T 3 6 (rgF r))] (.tup [(false,[.ptr 1 0]),(false,[.b64 true 0#64])]) [.cells 109 [.rsl 2 6],.row 76 3 6 (rgF (jR 5 (jR 4 (jR 4 (jR 3 (jR 2 (jR 1 (oneR (r 0)) (oneR (r 1))) (oneR (r 2))) (oneR (r 3))) (oneR (r 4))) (oneR (r 5))) (shR (jR 4 (jR 3 (jR 2 (jR 1 (oneR (r 0)) (oneR (r 1))) (oneR (r 2))) (oneR (r 3))) (oneR (r 4))) 4)))]):=by
 obtain ⟨⟨hp0,hp2⟩,⟨b0,s0⟩,⟨b1,s1⟩,⟨b2,s2⟩,⟨b3,s3⟩,⟨b4,s4⟩,⟨b5,s5⟩⟩:=H
 repeat' (first
  | (with_reducible refine Given.ok (by decide) ?_)
  | (with_reducible apply Given.mk;intro h;(try simp only [b0,s0,b1,s1,b2,s2,b3,s3,b4,s4,b5,s5,apartB,Nat.reduceAdd,Nat.reduceLeDiff,Nat.reduceSub,BitVec.reduceAdd,BitVec.reduceSub,BitVec.reduceMul,BitVec.reduceToNat,BitVec.reduceULE,BitVec.reduceULT,BitVec.reduceSLT,BitVec.reduceBEq,BitVec.reduceBNe,BitVec.reduceOfNat,pk_0 hp2 (Nat.pos_iff_ne_zero.1 hp0),pk_m hp2,pk_1 hp2,pk_2 hp2,pk_3 hp2,if_true,if_false,Bool.false_eq_true,Bool.true_and,Bool.false_and,Bool.and_true,Bool.and_false,Bool.true_or,Bool.or_true,Bool.false_or,Bool.or_false,reduceIte,bne_self_eq_false,Bool.not_true,Bool.not_false,Bool.true_beq,Bool.false_beq] at h);(try exact absurd h (by decide)))
  | ((conv=>whnf);first
    | with_reducible apply Both.mk
    | refine LoopP.times 8 ?_))
 all_goals first
  | ((with_reducible apply Ob.mk);first | omega | (simp only [BitVec.reduceAdd,BitVec.reduceToNat,s0,s1,s2,s3,s4,s5];exact ⟨by omega,by omega⟩) | (simp only [BitVec.reduceAdd,BitVec.reduceToNat,s0,s1,s2,s3,s4,s5];omega) | (simp only [byt8,catB_size,rs_size];exact ⟨by omega,by omega⟩) | (simp only [byt8,catB_size,rs_size,jR,g0,g1,oR,zB,Nat.reduceAdd,Nat.reduceLeDiff,Nat.reduceSub,BitVec.reduceAdd,BitVec.reduceToNat,if_true,if_false,reduceIte];exact ⟨by omega,by omega⟩) | (simp only [byt8,catB_size,rs_size];exact ⟨by decide,by omega⟩) | (simp only [byt8,catB_size,rs_size];exact ⟨by omega,by decide⟩) | (simp only [byt8,catB_size,rs_size];exact ⟨by decide,by decide⟩) | exact fun _=>rfl | exact ⟨fun _=>rfl,hd0⟩ | exact ⟨fun _=>rfl,by decide⟩ | exact ⟨(fun j=>by rcases j with _ | _ | j<;>rfl),by decide⟩ | exact ⟨rfl,fun _=>rfl,fun _=>rfl⟩ | ((show (_:List L)=mapL);kernel_rfl) | ((show innerB _ _=true);kernel_rfl) | ((show (_:Ep.S)=_);kernel_rfl) | exact (fun j=>by rcases j with _ | _ | j<;>rfl) | decide | ((show Region.preF _ _=true);kernel_rfl) | ((show Region.tailB _ _=true);kernel_rfl) | ((show Region.lexB _ _=true);kernel_rfl))
  | (with_reducible apply Ob.mk)
  | ((conv=>whnf);exact ⟨[10,94],rfl,rfl,fun b hb=>(by simp only [List.mem_cons,List.mem_nil_iff,or_false] at hb;rcases hb with rfl | rfl<;>exact ⟨rfl,rfl⟩),rfl,fun _ _ h=>(by first | exact look_q rfl h | exact look_q' rfl h),by kernel_rfl,by kernel_rfl,trivial⟩)
  | ((conv=>whnf);skip)
set_option maxRecDepth 100000 in
set_option maxHeartbeats 16000000 in
theorem Mem_20 (T:TypeId) (r:RT) (p:Nat) (H:(0<p∧p≤100)∧((r 0).b=65536#64∧(r 0).d.size=16)∧((r 1).b=65552#64∧(r 1).d.size=8)∧((r 2).b=131072#64∧(r 2).d.size=512)∧((r 3).b=196608#64∧(r 3).d.size=p)∧((r 4).b=1048576#64∧(r 4).d.size=32)∧((r 5).b=1114112#64∧(r 5).d.size=24)∧((r 6).b=262144#64∧(r 6).d.size=128)) :
 FI Tryd.prog C_q Tryd.f33 1 [.one (.rsl 0 7)] [(0,.row T 3 7 (rgF r))] (OutN [(0,.row T 3 7 (rgF r))] (.tup [(false,[.ptr 1 0]),(false,[.b64 true 0#64])]) [.cells 109 [.rsl 2 7],.row 76 3 7 (rgF (jR 5 (jR 4 (jR 5 (jR 4 (jR 3 (jR 2 (jR 1 (oneR (r 0)) (oneR (r 1))) (oneR (r 2))) (oneR (r 3))) (oneR (r 4))) (oneR (r 5))) (oneR (r 6))) (shR (jR 5 (jR 4 (jR 3 (jR 2 (jR 1 (oneR (r 0)) (oneR (r 1))) (oneR (r 2))) (oneR (r 3))) (oneR (r 4))) (oneR (r 5))) 4)))]):=by
 obtain ⟨⟨hp0,hp2⟩,⟨b0,s0⟩,⟨b1,s1⟩,⟨b2,s2⟩,⟨b3,s3⟩,⟨b4,s4⟩,⟨b5,s5⟩,⟨b6,s6⟩⟩:=H
 repeat' (first
  | (with_reducible refine Given.ok (by decide) ?_)
  | (with_reducible apply Given.mk;intro h;(try simp only [b0,s0,b1,s1,b2,s2,b3,s3,b4,s4,b5,s5,b6,s6,apartB,Nat.reduceAdd,Nat.reduceLeDiff,Nat.reduceSub,BitVec.reduceAdd,BitVec.reduceSub,BitVec.reduceMul,BitVec.reduceToNat,BitVec.reduceULE,BitVec.reduceULT,BitVec.reduceSLT,BitVec.reduceBEq,BitVec.reduceBNe,BitVec.reduceOfNat,pk_0 hp2 (Nat.pos_iff_ne_zero.1 hp0),pk_m hp2,pk_1 hp2,pk_2 hp2,pk_3 hp2,if_true,if_false,Bool.false_eq_true,Bool.true_and,Bool.false_and,Bool.and_true,Bool.and_false,Bool.true_or,Bool.or_true,Bool.false_or,Bool.or_false,reduceIte,bne_self_eq_false,Bool.not_true,Bool.not_false,Bool.true_beq,Bool.false_beq] at h);(try exact absurd h (by decide)))
  | ((conv=>whnf);first
    | with_reducible apply Both.mk
    | refine LoopP.times 8 ?_))
 all_goals first
  | ((with_reducible apply Ob.mk);first | omega | (simp only [BitVec.reduceAdd,BitVec.reduceToNat,s0,s1,s2,s3,s4,s5,s6];exact ⟨by omega,by omega⟩) | (simp only [BitVec.reduceAdd,BitVec.reduceToNat,s0,s1,s2,s3,s4,s5,s6];omega) | (simp only [byt8,catB_size,rs_size];exact ⟨by omega,by omega⟩) | (simp only [byt8,catB_size,rs_size,jR,g0,g1,oR,zB,Nat.reduceAdd,Nat.reduceLeDiff,Nat.reduceSub,BitVec.reduceAdd,BitVec.reduceToNat,if_true,if_false,reduceIte];exact ⟨by omega,by omega⟩) | (simp only [byt8,catB_size,rs_size];exact ⟨by decide,by omega⟩) | (simp only [byt8,catB_size,rs_size];exact ⟨by omega,by decide⟩) | (simp only [byt8,catB_size,rs_size];exact ⟨by decide,by decide⟩) | exact fun _=>rfl | exact ⟨fun _=>rfl,hd0⟩ | exact ⟨fun _=>rfl,by decide⟩ | exact ⟨(fun j=>by rcases j with _ | _ | j<;>rfl),by decide⟩ | exact ⟨rfl,fun _=>rfl,fun _=>rfl⟩ | ((show (_:List L)=mapL);kernel_rfl) | ((show innerB _ _=true);kernel_rfl) | ((show (_:Ep.S)=_);kernel_rfl) | exact (fun j=>by rcases j with _ | _ | j<;>rfl) | decide | ((show Region.preF _ _=true);kernel_rfl) | ((show Region.tailB _ _=true);kernel_rfl) | ((show Region.lexB _ _=true);kernel_rfl))
  | (with_reducible apply Ob.mk)
  | ((conv=>whnf);exact ⟨[10,95],rfl,rfl,fun b hb=>(by simp only [List.mem_cons,List.mem_nil_iff,or_false] at hb;rcases hb with rfl | rfl<;>exact ⟨rfl,rfl⟩),rfl,fun _ _ h=>(by first | exact look_q rfl h | exact look_q' rfl h),by kernel_rfl,by kernel_rfl,trivial⟩)
  | ((conv=>whnf);skip)
end Go.Proofs.YthkgakelgdncjaaDoor
