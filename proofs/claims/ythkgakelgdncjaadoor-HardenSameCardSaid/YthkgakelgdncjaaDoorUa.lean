/- HardenSame: a constant of two slots: contracts. Conditions: as typed. -/
import Derived.Test.YthkgakelgdncjaaDoorOb
import Derived.Test.YthkgakelgdncjaaDoorPr
namespace Go.Proofs.YthkgakelgdncjaaDoor
open Go.Ep Go.RowKit
set_option linter.unusedVariables false
set_option linter.unusedSimpArgs false
abbrev tb_nm0:List (Nat×Sp):=[]
theorem C_nm0:CSound Tryd.prog anyWorld (tab noData tb_nm0):=CSound.start
def wideV (a b:BitVec 32):BitVec 64:=BitVec.setWidth 64 b*4294967296#64 + BitVec.setWidth 64 a
def sp_firewallref03_Wide:Sp
 | [.agg [.b8 false o,.b8 false d,.b8 false s,.b16 true f,.b32 true i],.agg [.b8 false o2,.b8 false d2,.b8 false s2,.b16 true f2,.b32 true i2]]=>some (Cond.t,.one (.b64 false (wideV i i2)))
 | _=>none
set_option maxRecDepth 100000 in
set_option maxHeartbeats 4000000 in
theorem e_firewallref03_Wide:EntryOK Tryd.prog anyWorld 84 sp_firewallref03_Wide:=by
 refine .of_F (C_nm0) (by kernel_rfl) Tryd.func84 (by kernel_rfl) (by kernel_rfl) (fun args c v h hc=> ?_)
 unfold sp_firewallref03_Wide at h
 split at h
 · rename_i o d s f i o2 d2 s2 f2 i2;cases h
   refine ⟨rfl,rfl,?_⟩
   repeat' (first
    | (with_reducible apply Given.mk;intro h;(try exact absurd h (by decide)))
    | ((conv=>whnf);with_reducible apply Both.mk))
   all_goals first
    | (with_reducible apply Ob.mk;kernel_rfl)
    | (with_reducible apply Ob.mk;decide)
    | (with_reducible apply Ob.mk;simp [ByteArray.size,catB,exB,wideV];done)
    | ((conv=>whnf);refine ⟨?_⟩;first | with_reducible rfl | (simp only [wideV, *,Bool.true_and,Bool.and_true,Bool.false_and,Bool.and_false,Bool.true_or,Bool.or_true,Bool.false_or,Bool.or_false,Bool.not_true,Bool.not_false,Bool.false_eq_true,Bool.true_eq_false,if_true,if_false,reduceCtorEq];done) | (simp_all [wideV];done) | rfl)
 · cases h
abbrev tb_firewallref03_Wide:List (Nat×Sp):=(84,sp_firewallref03_Wide)::tb_nm0
theorem C_firewallref03_Wide:CSound Tryd.prog anyWorld (tab noData tb_firewallref03_Wide):=(C_nm0).cons (e_firewallref03_Wide)
def constV (x:IT) (len:Nat) (p:BitVec 64):BitVec 64:=if (BitVec.ofNat 64 len - 1#64).sle p then 0#64 else if (x p.toNat).o != 24#8 then 0#64 else if (0#8).ult (x p.toNat).s then 0#64 else wideV (x p.toNat).i (x (p + 1#64).toNat).i
theorem cn_len {p:BitVec 64} {n:Nat} (hn:n≤8000) (hp:p.toNat<n) (h:(BitVec.ofNat 64 n - 1#64).sle p=false):(BitVec.ofNat 64 n).sle (p + 1#64)=false:=by
 have h1:=nat1 hn hp
 have h0:(BitVec.ofNat 64 n - 1#64).toNat=n - 1:=by rw [BitVec.toNat_sub,BitVec.toNat_ofNat];simp;omega
 rw [BitVec.sle_eq_decide,decide_eq_false_iff_not] at h ⊢
 rw [BitVec.toInt_eq_toNat_cond,if_pos (by rw [h0];omega),h0,toInt_lt hn hp] at h
 rw [toInt_ofNat (by omega),BitVec.toInt_eq_toNat_cond,if_pos (by rw [h1];omega),h1]
 omega
theorem slt_pno {p:BitVec 64} {n:Nat} (hn:n≤8000) (hp:p.toNat<n):p.slt 0#64=false:=by
 rw [BitVec.slt_eq_decide,toInt_lt hn hp];exact decide_eq_false (by show ¬ _<(0:Int);omega)
def sq_const (len:Nat) (g:Nat→List PL) (rest:List AV):Option (Cond×AV):=match rest with
 | [.one (.b64 true p)]=>some (Cond.p (len≤8000∧g=inF (inOf g)∧p.toNat<len),.one (.b64 false (constV (inOf g) len p)))
 | _=>none
set_option maxRecDepth 100000 in
set_option maxHeartbeats 8000000 in
theorem const_walk (T:TypeId) (len cap:Nat) (hl:len≤8000) (x:IT) (p:BitVec 64) (hp:p.toNat<len) :
 FI Tryd.prog (tab noData tb_firewallref03_Wide) Tryd.f65 1 [.one (.slc 0 0 len cap),.one (.b64 true p)] [(0,.ro T [.seg 5 len (inF x)])] (fun r _=>r= .one (.b64 false (constV x len p))):=by
 have q0:=slt_pno hl hp
 repeat' (first
  | (with_reducible apply Given.mk;intro h;(try exact absurd h (by decide));(try exact absurd (q0.symm.trans h) (by decide)))
  | ((conv=>whnf);first
    | with_reducible apply Both.mk
    | fail))
 all_goals first
  | (with_reducible apply Ob.mk;(show len<9223372036854775808);omega)
  | ((with_reducible apply Ob.mk);with_reducible exact ixp hl hp)
  | ((with_reducible apply Ob.mk);with_reducible exact (ixp hl hp).2)
  | ((with_reducible apply Ob.mk);with_reducible exact ixp1 hl hp (cn_len hl hp (by assumption)))
  | ((with_reducible apply Ob.mk);with_reducible exact (ixp1 hl hp (cn_len hl hp (by assumption))).2)
  | ((with_reducible apply Ob.mk);kernel_rfl)
  | ((conv=>whnf);simp only [constV, *,if_true,if_false,Bool.false_eq_true,reduceIte];done)
  | ((conv=>whnf);simp_all [constV];done)
  | ((conv=>whnf);skip)
set_option maxRecDepth 100000 in
theorem e_const:EntryM Tryd.prog anyWorld 65 (spS 5 sq_const):=by
 refine .of_slice C_firewallref03_Wide (by kernel_rfl) Tryd.func65 (by kernel_rfl) (by kernel_rfl) (fun len g rest c v h hc=> ?_) (fun rest c v h hc ad cap=> ?_)
 · unfold sq_const at h
   split at h
   · cases h
     obtain ⟨h1,h2,c0⟩:=hc
     refine ⟨rfl,rfl,fun T cap=> ?_⟩
     generalize inOf g=x at h2
     subst h2
     exact const_walk T len cap h1 x _ c0
   · cases h
 · unfold sq_const at h
   split at h
   · cases h
     exact absurd hc.2.2 (Nat.not_lt_zero _)
   · cases h
end Go.Proofs.YthkgakelgdncjaaDoor
