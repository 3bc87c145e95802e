/- HardenSame: S.call of the document's interpreter: the contract. Conditions: as typed. -/
import Derived.Test.YthkgakelgdncjaaDoorVh
import Derived.Test.YthkgakelgdncjaaDoorVi
import Derived.Test.YthkgakelgdncjaaDoorVj
import Derived.Test.YthkgakelgdncjaaDoorVk
namespace Go.Proofs.YthkgakelgdncjaaDoor
open Go.Ep Go.RowKit
set_option linter.unusedVariables false
set_option linter.unusedSimpArgs false
structure SR where
 e:BitVec 64
 m:MR
 s:WR
theorem scall_ex (nm:Nat) (de:Bool) (hn:nm=0∨nm=1∨nm=2) (c:WC) (m:MR) (s:WR) (h:s.ok c.cm (dmV de c.dm)) (hc:c.ok) (id:BitVec 64):∃ a:SA c.cm (dmV de c.dm),∀ vs:Nat→Nat→Value,SCP nm de c m s id a.e a.m a.s vs:=by
 rcases hn with rfl | rfl | rfl
 · exact scall_ex0 _ _ rfl c m s h hc id
 · exact scall_ex1 _ _ rfl c m s h hc id
 · cases de
   · exact scall_ex2f _ _ ⟨rfl,rfl⟩ c m s h hc id
   · exact scall_ex2t _ _ ⟨rfl,rfl⟩ c m s h hc id
open Classical in
noncomputable def scallR (nm:Nat) (de:Bool) (c:WC) (m:MR) (s:WR) (id:BitVec 64):SR:=
 if h:(nm=0∨nm=1∨nm=2)∧s.ok c.cm (dmV de c.dm)∧c.ok then ⟨(Classical.choose (scall_ex nm de h.1 c m s h.2.1 h.2.2 id)).e,(Classical.choose (scall_ex nm de h.1 c m s h.2.1 h.2.2 id)).m,(Classical.choose (scall_ex nm de h.1 c m s h.2.1 h.2.2 id)).s⟩ else ⟨0#64,m,s⟩
theorem scallR_ok {nm:Nat} {de:Bool} {c:WC} {m:MR} {s:WR} {id:BitVec 64} (h:s.ok c.cm (dmV de c.dm)) (hc:c.ok):(scallR nm de c m s id).s.ok c.cm (dmV de c.dm):=by
 unfold scallR
 split
 · exact SA.ok _
 · exact h
theorem stufW (nm:Nat) (de:Bool) (c:WC) (m:MR) (s:WR) (vs:Nat→Nat→Value):stufH vs ((0,.cells 95 (sLs (.ptr 1 0) m))::wB nm de 1 c s)=(0,sC m 1 (.raw (vs 0 0)) (.raw (vs 0 7)) (.raw (vs 0 8)))::wB nm de 1 c s:=by
 unfold wB
 split<;>rfl
noncomputable def sp_scall (nm:Nat) (de:Bool):SpW:=fun args ch=>match args,ch with
 | [.one (.ptr 0 0),.one (.b64 true id)],(0,.cells 95 [.junk,.ptr 1 0,.seg 1 11 fR,.seg 1 11 fH,.seg 1 11 fT,.seg 1 512 fW,.seg 1 64 fD,.junk,.junk])::w=>(match exW nm de w with
   | some (c,s)=>some (.p (mOK fR fH fT fW fD∧w=wB nm de 1 c s∧s.ok c.cm c.dm∧c.ok),.one (.b64 true (scallR nm de c (mOf fR fH fT fW fD) s id).e),(0,.cells 95 (sLs (.ptr 1 0) (scallR nm de c (mOf fR fH fT fW fD) s id).m))::wU nm de 1 c (scallR nm de c (mOf fR fH fT fW fD) s id).s)
   | none=>none)
 | _,_=>none
theorem e_scall (nm:Nat) (de:Bool):EntryO Tryd.prog anyWorld 72 (sp_scall nm de):=by
 refine .of_FI (C_sc_ok nm de) (by kernel_rfl) Tryd.func72 (by kernel_rfl) (by kernel_rfl) (fun args ch c v ups h hc vs=> ?_)
 unfold sp_scall at h
 split at h
 · rename_i id fR fH fT fW fD w
   split at h
   · rename_i e
     cases h
     obtain ⟨hm,hw,ok,hco⟩:=hc
     obtain ⟨⟨R,rfl⟩,⟨H,rfl⟩,⟨Tg,rfl⟩,⟨Wr,rfl⟩,⟨D,rfl⟩⟩:=mOK_ex hm
     obtain ⟨hn,hd,-⟩:=exW_ok e
     subst hw
     rw [← hd] at ok
     have k:=Classical.choose_spec (scall_ex nm de hn _ ⟨R,H,Tg,Wr,D⟩ _ ok hco id) vs
     unfold SCP at k
     rw [← stufW] at k
     unfold scallR
     rw [dif_pos ⟨hn,ok,hco⟩]
     exact k
   · cases h
 · cases h
end Go.Proofs.YthkgakelgdncjaaDoor
