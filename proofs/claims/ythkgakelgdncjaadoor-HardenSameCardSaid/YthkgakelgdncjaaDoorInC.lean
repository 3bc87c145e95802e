/- What the functions of package insns answer: by the evaluator. Conditions: none. -/
import Derived.Test.YthkgakelgdncjaaDoorOm
import Derived.Test.YthkgakelgdncjaaDoorProg
namespace Go.Proofs.YthkgakelgdncjaaDoor
open Go.Ep Go.RowKit
set_option linter.unusedVariables false
set_option linter.unusedSimpArgs false
abbrev tb_start:List (Nat×Sp):=[]
theorem C_start:CSound Tryd.prog anyWorld (tab noData tb_start):=CSound.start
def sp_insns_jump:Sp
 | [.one (.b8 false o)]=>some (Cond.t,.tup [(true,[.bool (jD o),.bool (jS o),.bool (jO o),.bool (jI o),.bool false]),(false,[.bool (jK o)])])
 | _=>none
set_option maxRecDepth 100000 in
set_option maxHeartbeats 4000000 in
theorem e_insns_jump:EntryOK Tryd.prog anyWorld 106 sp_insns_jump:=by
 refine .of_F (C_start) (by kernel_rfl) Tryd.func106 (by kernel_rfl) (by kernel_rfl) (fun args c v h hc=> ?_)
 unfold sp_insns_jump at h
 split at h
 · rename_i o;cases h
   refine ⟨rfl,rfl,?_⟩
   repeat' (first
    | (with_reducible apply Given.mk;intro h;(try exact absurd h (by decide)))
    | ((conv=>whnf);with_reducible apply Both.mk))
   all_goals first
    | (with_reducible apply Ob.mk;kernel_rfl)
    | (with_reducible apply Ob.mk;decide)
    | (with_reducible apply Ob.mk;simp [ByteArray.size,catB,exB,jD,jS,jO,jI,jK,jSp,jAl,oc,orr];done)
    | ((conv=>whnf);refine ⟨?_⟩;first | with_reducible rfl | (simp only [jD,jS,jO,jI,jK,jSp,jAl,oc,orr, *,Bool.true_and,Bool.and_true,Bool.false_and,Bool.and_false,Bool.true_or,Bool.or_true,Bool.false_or,Bool.or_false,Bool.not_true,Bool.not_false,Bool.false_eq_true,Bool.true_eq_false,if_true,if_false,reduceCtorEq];done) | (simp_all [jD,jS,jO,jI,jK,jSp,jAl,oc,orr];done) | rfl)
 · cases h
abbrev tb_insns_jump:List (Nat×Sp):=(106,sp_insns_jump)::tb_start
theorem C_insns_jump:CSound Tryd.prog anyWorld (tab noData (tb_insns_jump)):=(C_start).cons (e_insns_jump)
def sp_insns_form:Sp
 | [.one (.b8 false o),.one (.bool w)]=>some (Cond.t,.tup [(true,[.bool (fD o),.bool (fS o),.bool (fO o),.bool (fI o),.bool (fW o)]),(false,[.bool (fK o w)])])
 | _=>none
set_option maxRecDepth 100000 in
set_option maxHeartbeats 4000000 in
theorem e_insns_form:EntryOK Tryd.prog anyWorld 98 sp_insns_form:=by
 refine .of_F (C_insns_jump) (by kernel_rfl) Tryd.func98 (by kernel_rfl) (by kernel_rfl) (fun args c v h hc=> ?_)
 unfold sp_insns_form at h
 split at h
 · rename_i o w;cases h
   refine ⟨rfl,rfl,?_⟩
   repeat' (first
    | (with_reducible apply Given.mk;intro h;(try exact absurd h (by decide)))
    | ((conv=>whnf);with_reducible apply Both.mk))
   all_goals first
    | (with_reducible apply Ob.mk;kernel_rfl)
    | (with_reducible apply Ob.mk;decide)
    | ((conv=>whnf);refine ⟨?_⟩;(try dsimp only);simp only [AV.tup.injEq,List.cons.injEq,Prod.mk.injEq,L.bool.injEq,true_and,and_true,AV.one.injEq];(try cases w)<;>(revert o;decide +kernel))
 · cases h
abbrev tb_insns_form:List (Nat×Sp):=(98,sp_insns_form)::tb_insns_jump
theorem C_insns_form:CSound Tryd.prog anyWorld (tab noData (tb_insns_form)):=(C_insns_jump).cons (e_insns_form)
def sp_insns_number:Sp
 | [.agg [.b8 false o,.b8 false d,.b8 false s,.b16 true f,.b32 true i]]=>some (Cond.t,.one (.bool (iN' o i)))
 | _=>none
set_option maxRecDepth 100000 in
set_option maxHeartbeats 4000000 in
theorem e_insns_number:EntryOK Tryd.prog anyWorld 99 sp_insns_number:=by
 refine .of_F (C_insns_form) (by kernel_rfl) Tryd.func99 (by kernel_rfl) (by kernel_rfl) (fun args c v h hc=> ?_)
 unfold sp_insns_number at h
 split at h
 · rename_i o d s f i;cases h
   refine ⟨rfl,rfl,?_⟩
   repeat' (first
    | (with_reducible apply Given.mk;intro h;(try exact absurd h (by decide)))
    | ((conv=>whnf);with_reducible apply Both.mk))
   all_goals first
    | (with_reducible apply Ob.mk;kernel_rfl)
    | (with_reducible apply Ob.mk;decide)
    | (with_reducible apply Ob.mk;simp [ByteArray.size,catB,exB,iN',isA,oc,Bool.or_assoc];done)
    | ((conv=>whnf);refine ⟨?_⟩;first | with_reducible rfl | (simp only [iN',isA,oc,Bool.or_assoc, *,Bool.true_and,Bool.and_true,Bool.false_and,Bool.and_false,Bool.true_or,Bool.or_true,Bool.false_or,Bool.or_false,Bool.not_true,Bool.not_false,Bool.false_eq_true,Bool.true_eq_false,if_true,if_false,reduceCtorEq];done) | (simp_all [iN',isA,oc,Bool.or_assoc];done) | rfl)
 · cases h
abbrev tb_insns_number:List (Nat×Sp):=(99,sp_insns_number)::tb_insns_form
theorem C_insns_number:CSound Tryd.prog anyWorld (tab noData (tb_insns_number)):=(C_insns_form).cons (e_insns_number)
def sp_insns_Check:Sp
 | [.agg [.b8 false o,.b8 false d,.b8 false s,.b16 true f,.b32 true i],.one (.bool w)]=>some (Cond.t,.one (.b64 true (iCheck o d s f i w)))
 | _=>none
set_option maxRecDepth 100000 in
set_option maxHeartbeats 4000000 in
theorem e_insns_Check:EntryOK Tryd.prog anyWorld 75 sp_insns_Check:=by
 refine .of_F (C_insns_number) (by kernel_rfl) Tryd.func75 (by kernel_rfl) (by kernel_rfl) (fun args c v h hc=> ?_)
 unfold sp_insns_Check at h
 split at h
 · rename_i o d s f i w;cases h
   refine ⟨rfl,rfl,?_⟩
   repeat' (first
    | (with_reducible apply Given.mk;intro h;(try exact absurd h (by decide)))
    | ((conv=>whnf);with_reducible apply Both.mk))
   all_goals first
    | (with_reducible apply Ob.mk;kernel_rfl)
    | (with_reducible apply Ob.mk;decide)
    | (with_reducible apply Ob.mk;simp [ByteArray.size,catB,exB,iCheck];done)
    | ((conv=>whnf);refine ⟨?_⟩;first | with_reducible rfl | (simp only [iCheck, *,Bool.true_and,Bool.and_true,Bool.false_and,Bool.and_false,Bool.true_or,Bool.or_true,Bool.false_or,Bool.or_false,Bool.not_true,Bool.not_false,Bool.false_eq_true,Bool.true_eq_false,if_true,if_false,reduceCtorEq];done) | (simp_all [iCheck];done) | rfl)
 · cases h
abbrev tb_insns_Check:List (Nat×Sp):=(75,sp_insns_Check)::tb_insns_number
theorem C_insns_Check:CSound Tryd.prog anyWorld (tab noData (tb_insns_Check)):=(C_insns_number).cons (e_insns_Check)
abbrev tb_insns_Encode:List (Nat×Sp):=tb_insns_Check
theorem C_insns_Encode:CSound Tryd.prog anyWorld (tab noData tb_insns_Encode):=C_insns_Check
end Go.Proofs.YthkgakelgdncjaaDoor
