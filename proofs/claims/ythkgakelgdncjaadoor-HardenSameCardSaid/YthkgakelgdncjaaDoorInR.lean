/- What the document's functions of chapter 02 answer, and the sizes: by the evaluator. Conditions: none. -/
import Derived.Test.YthkgakelgdncjaaDoorInC
import Derived.Test.YthkgakelgdncjaaDoorOm
namespace Go.Proofs.YthkgakelgdncjaaDoor
open Go.Ep Go.RowKit
set_option linter.unusedVariables false
set_option linter.unusedSimpArgs false
def sizeV (o:BitVec 8):BitVec 64:=if o==113#8||o==114#8||o==115#8 then 1#64 else if o==105#8||o==106#8||o==107#8 then 2#64 else if o==97#8||o==98#8||o==99#8 then 4#64 else if o==121#8||o==122#8||o==123#8 then 8#64 else 0#64
theorem r_m8 (o:BitVec 8):o % 8#8=o &&& 7#8:=by simpa using all8 (p:=fun o=>o % 8#8==o &&& 7#8) (by decide +kernel) o
theorem r_code (o:BitVec 8):((o.setWidth 64).sdiv 16#64*16#64)=(oc o).setWidth 64:=by simpa using all8 (p:=fun o=>((o.setWidth 64).sdiv 16#64*16#64)==(oc o).setWidth 64) (by decide +kernel) o
theorem r_reg (o:BitVec 8):(o / 8#8 % 2#8==1#8)=orr o:=by simpa using all8 (p:=fun o=>(o / 8#8 % 2#8==1#8)==orr o) (by decide +kernel) o
theorem r_sp (o:BitVec 8):((oc o).setWidth 64==0#64)=(oc o==0#8)∧((oc o).setWidth 64==128#64)=(oc o==128#8)∧((oc o).setWidth 64==144#64)=(oc o==144#8):=by
 refine ⟨?_,?_,?_⟩
 · simpa using all8 (p:=fun o=>((oc o).setWidth 64==0#64)==(oc o==0#8)) (by decide +kernel) o
 · simpa using all8 (p:=fun o=>((oc o).setWidth 64==128#64)==(oc o==128#8)) (by decide +kernel) o
 · simpa using all8 (p:=fun o=>((oc o).setWidth 64==144#64)==(oc o==144#8)) (by decide +kernel) o
theorem r_sp2 (o:BitVec 8):((oc o).setWidth 64==96#64)=(oc o==96#8)∧((oc o).setWidth 64==112#64)=(oc o==112#8)∧((oc o).setWidth 64==192#64)=(oc o==192#8)∧((oc o).setWidth 64==48#64)=(oc o==48#8) ∧
 ((oc o).setWidth 64).sle 192#64=(oc o).ule 192#8∧((oc o).setWidth 64).sle 208#64=(oc o).ule 208#8∧((oc o).setWidth 64 != 128#64)= !(oc o==128#8):=by
 refine ⟨?_,?_,?_,?_,?_,?_,?_⟩
 · simpa using all8 (p:=fun o=>((oc o).setWidth 64==96#64)==(oc o==96#8)) (by decide +kernel) o
 · simpa using all8 (p:=fun o=>((oc o).setWidth 64==112#64)==(oc o==112#8)) (by decide +kernel) o
 · simpa using all8 (p:=fun o=>((oc o).setWidth 64==192#64)==(oc o==192#8)) (by decide +kernel) o
 · simpa using all8 (p:=fun o=>((oc o).setWidth 64==48#64)==(oc o==48#8)) (by decide +kernel) o
 · simpa using all8 (p:=fun o=>((oc o).setWidth 64).sle 192#64==(oc o).ule 192#8) (by decide +kernel) o
 · simpa using all8 (p:=fun o=>((oc o).setWidth 64).sle 208#64==(oc o).ule 208#8) (by decide +kernel) o
 · simpa using all8 (p:=fun o=>((oc o).setWidth 64 != 128#64)== !(oc o==128#8)) (by decide +kernel) o
theorem ult8 (x:BitVec 8):(0#8).ult x=(x != 0#8):=by simpa using all8 (p:=fun x=>(0#8).ult x==(x != 0#8)) (by decide +kernel) x
theorem sle0' (i:BitVec 32):(0#32).sle i= !(i.slt 0#32):=by
 rw [Bool.eq_iff_iff]
 simp only [BitVec.sle_iff_toInt_le,Bool.not_eq_true',← Bool.not_eq_true,BitVec.slt_iff_toInt_lt]
 omega
theorem slt64' (i:BitVec 32):i.slt 64#32= !((63#32).slt i):=by
 rw [Bool.eq_iff_iff]
 have e1:(64#32).toInt=64:=rfl
 have e2:(63#32).toInt=63:=rfl
 simp only [Bool.not_eq_true',← Bool.not_eq_true,BitVec.slt_iff_toInt_lt,e1,e2]
 omega
theorem slt32' (i:BitVec 32):i.slt 32#32= !((31#32).slt i):=by
 rw [Bool.eq_iff_iff]
 have e1:(32#32).toInt=32:=rfl
 have e2:(31#32).toInt=31:=rfl
 simp only [Bool.not_eq_true',← Bool.not_eq_true,BitVec.slt_iff_toInt_lt,e1,e2]
 omega
theorem gt63 {i:BitVec 32} (h:(63#32).slt i=true):(31#32).slt i=true:=by
 have e1:(31#32).toInt=31:=rfl
 have e2:(63#32).toInt=63:=rfl
 rw [BitVec.slt_iff_toInt_lt,e2] at h
 rw [BitVec.slt_iff_toInt_lt,e1]
 omega
theorem kinds8 (o:BitVec 8) :
 (isA o=true∧isJ o=false∧isLd o=false∧isLx o=false∧isSt o=false∧isSx o=false∧isNs o=false) ∨
 (isA o=false∧isJ o=true∧isLd o=false∧isLx o=false∧isSt o=false∧isSx o=false∧isNs o=false) ∨
 (isA o=false∧isJ o=false∧isLd o=true∧isLx o=false∧isSt o=false∧isSx o=false∧isNs o=false) ∨
 (isA o=false∧isJ o=false∧isLd o=false∧isLx o=true∧isSt o=false∧isSx o=false∧isNs o=false) ∨
 (isA o=false∧isJ o=false∧isLd o=false∧isLx o=false∧isSt o=true∧isSx o=false∧isNs o=false) ∨
 (isA o=false∧isJ o=false∧isLd o=false∧isLx o=false∧isSt o=false∧isSx o=true∧isNs o=false) ∨
 (isA o=false∧isJ o=false∧isLd o=false∧isLx o=false∧isSt o=false∧isSx o=false):=by
 have h:=all8 (p:=fun o=>
  (isA o&& !isJ o&& !isLd o&& !isLx o&& !isSt o&& !isSx o&& !isNs o)||(!isA o&&isJ o&& !isLd o&& !isLx o&& !isSt o&& !isSx o&& !isNs o)||(!isA o&& !isJ o&&isLd o&& !isLx o&& !isSt o&& !isSx o&& !isNs o) ||
  (!isA o&& !isJ o&& !isLd o&&isLx o&& !isSt o&& !isSx o&& !isNs o)||(!isA o&& !isJ o&& !isLd o&& !isLx o&&isSt o&& !isSx o&& !isNs o)||(!isA o&& !isJ o&& !isLd o&& !isLx o&& !isSt o&&isSx o&& !isNs o) ||
  (!isA o&& !isJ o&& !isLd o&& !isLx o&& !isSt o&& !isSx o)) (by decide +kernel) o
 simp only [Bool.or_eq_true,Bool.and_eq_true,Bool.not_eq_true'] at h
 rcases h with (((((h | h) | h) | h) | h) | h) | h
 all_goals simp only [h,and_self,true_or,or_true,and_true,true_and]
def sp_firewallref02_Size:Sp
 | [.one (.b8 false o)]=>some (Cond.t,.one (.b64 true (sizeV o)))
 | _=>none
set_option maxRecDepth 100000 in
set_option maxHeartbeats 4000000 in
theorem e_firewallref02_Size:EntryOK Tryd.prog anyWorld 85 sp_firewallref02_Size:=by
 refine .of_F (C_insns_Encode) (by kernel_rfl) Tryd.func85 (by kernel_rfl) (by kernel_rfl) (fun args c v h hc=> ?_)
 unfold sp_firewallref02_Size at h
 split at h
 · rename_i o;cases h
   refine ⟨rfl,rfl,?_⟩
   repeat' (first
    | (with_reducible apply Given.mk;intro h;(try exact absurd h (by decide)))
    | ((conv=>whnf);first | with_reducible apply Both.mk | refine LoopP.times 14 ?_))
   all_goals first
    | (with_reducible apply Ob.mk;kernel_rfl)
    | (with_reducible apply Ob.mk;decide)
    | ((conv=>whnf);refine ⟨?_⟩;refine congrArg (fun v=>AV.one (.b64 true v)) ?_;revert o;decide +kernel)
 · cases h
abbrev tb_firewallref02_Size:List (Nat×Sp):=(85,sp_firewallref02_Size)::tb_insns_Encode
theorem C_firewallref02_Size:CSound Tryd.prog anyWorld (tab noData (tb_firewallref02_Size)):=(C_insns_Encode).cons (e_firewallref02_Size)
def sp_firewallref02_Arith:Sp
 | [.one (.b8 false o)]=>some (Cond.t,.one (.bool (isA o)))
 | _=>none
set_option maxRecDepth 100000 in
set_option maxHeartbeats 4000000 in
theorem e_firewallref02_Arith:EntryOK Tryd.prog anyWorld 62 sp_firewallref02_Arith:=by
 refine .of_F (C_firewallref02_Size) (by kernel_rfl) Tryd.func62 (by kernel_rfl) (by kernel_rfl) (fun args c v h hc=> ?_)
 unfold sp_firewallref02_Arith at h
 split at h
 · rename_i o;cases h
   refine ⟨rfl,rfl,?_⟩
   repeat' (first
    | (with_reducible apply Given.mk;intro h;(try simp only [r_m8] at h);(try exact absurd h (by decide)))
    | ((conv=>whnf);with_reducible apply Both.mk))
   all_goals first
    | (with_reducible apply Ob.mk;kernel_rfl)
    | (with_reducible apply Ob.mk;decide)
    | ((conv=>whnf);refine ⟨?_⟩;simp_all [isA,r_m8];done)
 · cases h
abbrev tb_firewallref02_Arith:List (Nat×Sp):=(62,sp_firewallref02_Arith)::tb_firewallref02_Size
theorem C_firewallref02_Arith:CSound Tryd.prog anyWorld (tab noData (tb_firewallref02_Arith)):=(C_firewallref02_Size).cons (e_firewallref02_Arith)
def sp_firewallref02_Load:Sp
 | [.one (.b8 false o)]=>some (Cond.t,.one (.bool (isLx o)))
 | _=>none
set_option maxRecDepth 100000 in
set_option maxHeartbeats 4000000 in
theorem e_firewallref02_Load:EntryOK Tryd.prog anyWorld 66 sp_firewallref02_Load:=by
 refine .of_F (C_firewallref02_Arith) (by kernel_rfl) Tryd.func66 (by kernel_rfl) (by kernel_rfl) (fun args c v h hc=> ?_)
 unfold sp_firewallref02_Load at h
 split at h
 · rename_i o;cases h
   refine ⟨rfl,rfl,?_⟩
   repeat' (first
    | (with_reducible apply Given.mk;intro h;(try exact absurd h (by decide)))
    | ((conv=>whnf);with_reducible apply Both.mk))
   all_goals first
    | (with_reducible apply Ob.mk;kernel_rfl)
    | (with_reducible apply Ob.mk;decide)
    | (with_reducible apply Ob.mk;simp [ByteArray.size,catB,exB,isLx];done)
    | ((conv=>whnf);refine ⟨?_⟩;first | with_reducible rfl | (simp only [isLx, *,Bool.true_and,Bool.and_true,Bool.false_and,Bool.and_false,Bool.true_or,Bool.or_true,Bool.false_or,Bool.or_false,Bool.not_true,Bool.not_false,Bool.false_eq_true,Bool.true_eq_false,if_true,if_false,reduceCtorEq];done) | (simp_all [isLx];done) | rfl)
 · cases h
abbrev tb_firewallref02_Load:List (Nat×Sp):=(66,sp_firewallref02_Load)::tb_firewallref02_Arith
theorem C_firewallref02_Load:CSound Tryd.prog anyWorld (tab noData (tb_firewallref02_Load)):=(C_firewallref02_Arith).cons (e_firewallref02_Load)
def sp_firewallref02_Jump:Sp
 | [.one (.b8 false o)]=>some (Cond.t,.one (.bool (isJ o)))
 | _=>none
set_option maxRecDepth 100000 in
set_option maxHeartbeats 4000000 in
theorem e_firewallref02_Jump:EntryOK Tryd.prog anyWorld 79 sp_firewallref02_Jump:=by
 refine .of_F (C_firewallref02_Load) (by kernel_rfl) Tryd.func79 (by kernel_rfl) (by kernel_rfl) (fun args c v h hc=> ?_)
 unfold sp_firewallref02_Jump at h
 split at h
 · rename_i o;cases h
   refine ⟨rfl,rfl,?_⟩
   repeat' (first
    | (with_reducible apply Given.mk;intro h;(try simp only [r_m8] at h);(try exact absurd h (by decide)))
    | ((conv=>whnf);with_reducible apply Both.mk))
   all_goals first
    | (with_reducible apply Ob.mk;kernel_rfl)
    | (with_reducible apply Ob.mk;decide)
    | ((conv=>whnf);refine ⟨?_⟩;simp_all [isJ,r_m8];done)
 · cases h
abbrev tb_firewallref02_Jump:List (Nat×Sp):=(79,sp_firewallref02_Jump)::tb_firewallref02_Load
theorem C_firewallref02_Jump:CSound Tryd.prog anyWorld (tab noData (tb_firewallref02_Jump)):=(C_firewallref02_Load).cons (e_firewallref02_Jump)
def sp_firewallref02_Code:Sp
 | [.one (.b8 false o)]=>some (Cond.t,.one (.b64 true ((oc o).setWidth 64)))
 | _=>none
set_option maxRecDepth 100000 in
set_option maxHeartbeats 4000000 in
theorem e_firewallref02_Code:EntryOK Tryd.prog anyWorld 71 sp_firewallref02_Code:=by
 refine .of_F (C_firewallref02_Jump) (by kernel_rfl) Tryd.func71 (by kernel_rfl) (by kernel_rfl) (fun args c v h hc=> ?_)
 unfold sp_firewallref02_Code at h
 split at h
 · rename_i o;cases h
   refine ⟨rfl,rfl,?_⟩
   repeat' (first
    | (with_reducible apply Given.mk;intro h;(try exact absurd h (by decide)))
    | ((conv=>whnf);with_reducible apply Both.mk))
   all_goals first
    | (with_reducible apply Ob.mk;kernel_rfl)
    | (with_reducible apply Ob.mk;decide)
    | ((conv=>whnf);refine ⟨?_⟩;rw [r_code])
 · cases h
abbrev tb_firewallref02_Code:List (Nat×Sp):=(71,sp_firewallref02_Code)::tb_firewallref02_Jump
theorem C_firewallref02_Code:CSound Tryd.prog anyWorld (tab noData (tb_firewallref02_Code)):=(C_firewallref02_Jump).cons (e_firewallref02_Code)
def sp_firewallref02_Reg:Sp
 | [.one (.b8 false o)]=>some (Cond.t,.one (.bool (orr o)))
 | _=>none
set_option maxRecDepth 100000 in
set_option maxHeartbeats 4000000 in
theorem e_firewallref02_Reg:EntryOK Tryd.prog anyWorld 81 sp_firewallref02_Reg:=by
 refine .of_F (C_firewallref02_Code) (by kernel_rfl) Tryd.func81 (by kernel_rfl) (by kernel_rfl) (fun args c v h hc=> ?_)
 unfold sp_firewallref02_Reg at h
 split at h
 · rename_i o;cases h
   refine ⟨rfl,rfl,?_⟩
   repeat' (first
    | (with_reducible apply Given.mk;intro h;(try exact absurd h (by decide)))
    | ((conv=>whnf);with_reducible apply Both.mk))
   all_goals first
    | (with_reducible apply Ob.mk;kernel_rfl)
    | (with_reducible apply Ob.mk;decide)
    | ((conv=>whnf);refine ⟨?_⟩;rw [r_reg])
 · cases h
abbrev tb_firewallref02_Reg:List (Nat×Sp):=(81,sp_firewallref02_Reg)::tb_firewallref02_Code
theorem C_firewallref02_Reg:CSound Tryd.prog anyWorld (tab noData (tb_firewallref02_Reg)):=(C_firewallref02_Code).cons (e_firewallref02_Reg)
def sp_firewallref02_Special:Sp
 | [.one (.b8 false o)]=>some (Cond.t,.one (.bool (isJ o&&jSp o)))
 | _=>none
set_option maxRecDepth 100000 in
set_option maxHeartbeats 4000000 in
theorem e_firewallref02_Special:EntryOK Tryd.prog anyWorld 80 sp_firewallref02_Special:=by
 refine .of_F (C_firewallref02_Reg) (by kernel_rfl) Tryd.func80 (by kernel_rfl) (by kernel_rfl) (fun args c v h hc=> ?_)
 unfold sp_firewallref02_Special at h
 split at h
 · rename_i o;cases h
   refine ⟨rfl,rfl,?_⟩
   obtain ⟨c1,c2,c3⟩:=r_sp o
   repeat' (first
    | (with_reducible apply Given.mk;intro h;(try simp only [c1,c2,c3] at h);(try exact absurd h (by decide)))
    | ((conv=>whnf);with_reducible apply Both.mk))
   all_goals first
    | (with_reducible apply Ob.mk;kernel_rfl)
    | (with_reducible apply Ob.mk;decide)
    | ((conv=>whnf);refine ⟨?_⟩;refine congrArg (fun v=>AV.one (.bool v)) ?_;clear c1 c2 c3;revert o;decide +kernel)
 · cases h
abbrev tb_firewallref02_Special:List (Nat×Sp):=(80,sp_firewallref02_Special)::tb_firewallref02_Reg
theorem C_firewallref02_Special:CSound Tryd.prog anyWorld (tab noData (tb_firewallref02_Special)):=(C_firewallref02_Reg).cons (e_firewallref02_Special)
def sp_firewallref02_Store:Sp
 | [.one (.b8 false o)]=>some (Cond.t,.one (.bool (isSt o)))
 | _=>none
set_option maxRecDepth 100000 in
set_option maxHeartbeats 4000000 in
theorem e_firewallref02_Store:EntryOK Tryd.prog anyWorld 68 sp_firewallref02_Store:=by
 refine .of_F (C_firewallref02_Special) (by kernel_rfl) Tryd.func68 (by kernel_rfl) (by kernel_rfl) (fun args c v h hc=> ?_)
 unfold sp_firewallref02_Store at h
 split at h
 · rename_i o;cases h
   refine ⟨rfl,rfl,?_⟩
   repeat' (first
    | (with_reducible apply Given.mk;intro h;(try exact absurd h (by decide)))
    | ((conv=>whnf);with_reducible apply Both.mk))
   all_goals first
    | (with_reducible apply Ob.mk;kernel_rfl)
    | (with_reducible apply Ob.mk;decide)
    | (with_reducible apply Ob.mk;simp [ByteArray.size,catB,exB,isSt];done)
    | ((conv=>whnf);refine ⟨?_⟩;first | with_reducible rfl | (simp only [isSt, *,Bool.true_and,Bool.and_true,Bool.false_and,Bool.and_false,Bool.true_or,Bool.or_true,Bool.false_or,Bool.or_false,Bool.not_true,Bool.not_false,Bool.false_eq_true,Bool.true_eq_false,if_true,if_false,reduceCtorEq];done) | (simp_all [isSt];done) | rfl)
 · cases h
abbrev tb_firewallref02_Store:List (Nat×Sp):=(68,sp_firewallref02_Store)::tb_firewallref02_Special
theorem C_firewallref02_Store:CSound Tryd.prog anyWorld (tab noData (tb_firewallref02_Store)):=(C_firewallref02_Special).cons (e_firewallref02_Store)
def sp_firewallref02_StoreReg:Sp
 | [.one (.b8 false o)]=>some (Cond.t,.one (.bool (isSx o)))
 | _=>none
set_option maxRecDepth 100000 in
set_option maxHeartbeats 4000000 in
theorem e_firewallref02_StoreReg:EntryOK Tryd.prog anyWorld 69 sp_firewallref02_StoreReg:=by
 refine .of_F (C_firewallref02_Store) (by kernel_rfl) Tryd.func69 (by kernel_rfl) (by kernel_rfl) (fun args c v h hc=> ?_)
 unfold sp_firewallref02_StoreReg at h
 split at h
 · rename_i o;cases h
   refine ⟨rfl,rfl,?_⟩
   repeat' (first
    | (with_reducible apply Given.mk;intro h;(try exact absurd h (by decide)))
    | ((conv=>whnf);with_reducible apply Both.mk))
   all_goals first
    | (with_reducible apply Ob.mk;kernel_rfl)
    | (with_reducible apply Ob.mk;decide)
    | (with_reducible apply Ob.mk;simp [ByteArray.size,catB,exB,isSx];done)
    | ((conv=>whnf);refine ⟨?_⟩;first | with_reducible rfl | (simp only [isSx, *,Bool.true_and,Bool.and_true,Bool.false_and,Bool.and_false,Bool.true_or,Bool.or_true,Bool.false_or,Bool.or_false,Bool.not_true,Bool.not_false,Bool.false_eq_true,Bool.true_eq_false,if_true,if_false,reduceCtorEq];done) | (simp_all [isSx];done) | rfl)
 · cases h
abbrev tb_firewallref02_StoreReg:List (Nat×Sp):=(69,sp_firewallref02_StoreReg)::tb_firewallref02_Store
theorem C_firewallref02_StoreReg:CSound Tryd.prog anyWorld (tab noData (tb_firewallref02_StoreReg)):=(C_firewallref02_Store).cons (e_firewallref02_StoreReg)
def sp_firewallref02_known:Sp
 | [.one (.b8 false o),.one (.bool w)]=>some (Cond.t,.one (.bool (fK o w)))
 | _=>none
set_option maxRecDepth 100000 in
set_option maxHeartbeats 4000000 in
theorem e_firewallref02_known:EntryOK Tryd.prog anyWorld 78 sp_firewallref02_known:=by
 refine .of_F (C_firewallref02_StoreReg) (by kernel_rfl) Tryd.func78 (by kernel_rfl) (by kernel_rfl) (fun args c v h hc=> ?_)
 unfold sp_firewallref02_known at h
 split at h
 · rename_i o w;cases h
   refine ⟨rfl,rfl,?_⟩
   obtain ⟨c1,c2,c3,c4,c5,c6,c7⟩:=r_sp2 o
   have c8:=(r_sp o).2.1
   rcases kinds8 o with ⟨h1,h2,h3,h4,h5,h6,h7⟩ | ⟨h1,h2,h3,h4,h5,h6,h7⟩ | ⟨h1,h2,h3,h4,h5,h6,h7⟩ | ⟨h1,h2,h3,h4,h5,h6,h7⟩ | ⟨h1,h2,h3,h4,h5,h6,h7⟩ | ⟨h1,h2,h3,h4,h5,h6,h7⟩ | ⟨h1,h2,h3,h4,h5,h6⟩
   all_goals
    repeat' (first
     | (with_reducible apply Given.mk;intro h;(try simp only [h1,h2,h3,h4,h5,h6,c5,c6,c8,r_m8,Bool.true_and,Bool.false_and,reduceCtorEq] at h);(try exact absurd h (by decide)))
     | ((conv=>whnf);with_reducible apply Both.mk))
    all_goals first
     | (with_reducible apply Ob.mk;kernel_rfl)
     | (with_reducible apply Ob.mk;decide)
     | ((conv=>whnf);refine ⟨?_⟩;refine congrArg (fun v=>AV.one (.bool v)) ?_;clear c1 c2 c3 c4 c5 c6 c7 c8;cases w<;>first | contradiction | (revert o;decide +kernel))
 · cases h
abbrev tb_firewallref02_known:List (Nat×Sp):=(78,sp_firewallref02_known)::tb_firewallref02_StoreReg
theorem C_firewallref02_known:CSound Tryd.prog anyWorld (tab noData (tb_firewallref02_known)):=(C_firewallref02_StoreReg).cons (e_firewallref02_known)
def sp_firewallref02_Check:Sp
 | [.agg [.b8 false o,.b8 false d,.b8 false s,.b16 true f,.b32 true i],.one (.bool w)]=>some (Cond.t,.one (.b64 true (iCheck o d s f i w)))
 | _=>none
set_option maxRecDepth 100000 in
set_option maxHeartbeats 4000000 in
theorem e_firewallref02_Check:EntryOK Tryd.prog anyWorld 50 sp_firewallref02_Check:=by
 refine .of_F (C_firewallref02_known) (by kernel_rfl) Tryd.func50 (by kernel_rfl) (by kernel_rfl) (fun args c v h hc=> ?_)
 unfold sp_firewallref02_Check at h
 split at h
 · rename_i o d s f i w;cases h
   refine ⟨rfl,rfl,?_⟩
   obtain ⟨c1,c2,c3,c4,c5,c6,c7⟩:=r_sp2 o
   obtain ⟨c9,c8,c10⟩:=r_sp o
   have u1:=ult8 d
   have u2:=ult8 s
   rcases kinds8 o with ⟨h1,h2,h3,h4,h5,h6,h7⟩ | ⟨h1,h2,h3,h4,h5,h6,h7⟩ | ⟨h1,h2,h3,h4,h5,h6,h7⟩ | ⟨h1,h2,h3,h4,h5,h6,h7⟩ | ⟨h1,h2,h3,h4,h5,h6,h7⟩ | ⟨h1,h2,h3,h4,h5,h6,h7⟩ | ⟨h1,h2,h3,h4,h5,h6⟩
   all_goals
    have h3':(o==24#8)=isLd o:=rfl
    cases hr:orr o<;>cases hj:jSp o
    all_goals
     repeat' (first
      | (with_reducible apply Given.mk;intro h;(try simp only [h1,h2,h3,h3',h4,h5,h6,hr,hj,c1,c2,c3,c4,c7,c8,c9,c10,r_m8,u1,u2,Bool.true_and,Bool.false_and,Bool.and_true,Bool.and_false,Bool.not_true,Bool.not_false,reduceCtorEq] at h);(try exact absurd h (by decide)))
      | ((conv=>whnf);with_reducible apply Both.mk))
     all_goals first
      | (with_reducible apply Ob.mk;kernel_rfl)
      | (with_reducible apply Ob.mk;decide)
      | ((conv=>whnf);refine ⟨?_⟩;simp only [sle0',slt64',slt32',iCheck,fD,fS,fO,fI,fW,jD,jS,jO,jI,iN',h1,h2,h3,h3',h4,h5,h6,hr,hj, *,Bool.true_and,Bool.and_true,Bool.false_and,Bool.and_false,Bool.true_or,Bool.or_true,Bool.false_or,Bool.or_false,Bool.not_true,Bool.not_false,Bool.false_eq_true,Bool.true_eq_false,if_true,if_false,reduceCtorEq];done)
      | ((conv=>whnf);refine ⟨?_⟩;simp_all [gt63,sle0',slt64',slt32',iCheck,fD,fS,fO,fI,fW,jD,jS,jO,jI,iN'];done)
      | ((conv=>whnf);refine ⟨?_⟩;simp_all [jSp,gt63,sle0',slt64',slt32',iCheck,fD,fS,fO,fI,fW,jD,jS,jO,jI,iN'];done)
 · cases h
abbrev tb_firewallref02_Check:List (Nat×Sp):=(50,sp_firewallref02_Check)::tb_firewallref02_known
theorem C_firewallref02_Check:CSound Tryd.prog anyWorld (tab noData (tb_firewallref02_Check)):=(C_firewallref02_known).cons (e_firewallref02_Check)
end Go.Proofs.YthkgakelgdncjaaDoor
