/- HardenSame: what a helper's call does to the document's world: the contract. Conditions: as typed. -/
import Derived.Test.YthkgakelgdncjaaDoorVx
import Derived.Test.YthkgakelgdncjaaDoorVy
namespace Go.Proofs.YthkgakelgdncjaaDoor
open Go.Ep Go.RowKit
set_option linter.unusedVariables false
set_option linter.unusedSimpArgs false
theorem call_ex (nm:Nat) (de:Bool) (hn:nm=0∨nm=1∨nm=2) (c:WC) (s:WR) (h:s.ok c.cm c.dm) (id a0 a1 a2 a3 a4:BitVec 64):∃ a:CA c.cm c.dm,CallP nm de c s id a0 a1 a2 a3 a4 a.v a.e a.s:=by
 rcases hn with rfl | rfl | rfl
 · exact call_ex01 _ _ (.inl rfl) c s h _ _ _ _ _ _
 · exact call_ex01 _ _ (.inr rfl) c s h _ _ _ _ _ _
 · exact call_ex2 _ _ rfl c s h _ _ _ _ _ _
open Classical in
noncomputable def callR (nm:Nat) (de:Bool) (c:WC) (s:WR) (id a0 a1 a2 a3 a4:BitVec 64):CR:=
 if h:(nm=0∨nm=1∨nm=2)∧s.ok c.cm c.dm then ⟨(Classical.choose (call_ex nm de h.1 c s h.2 id a0 a1 a2 a3 a4)).v,(Classical.choose (call_ex nm de h.1 c s h.2 id a0 a1 a2 a3 a4)).e,(Classical.choose (call_ex nm de h.1 c s h.2 id a0 a1 a2 a3 a4)).s⟩ else ⟨0#64,0#64,s⟩
theorem callR_ok {nm:Nat} {de:Bool} {c:WC} {s:WR} {id a0 a1 a2 a3 a4:BitVec 64} (h:s.ok c.cm c.dm):(callR nm de c s id a0 a1 a2 a3 a4).s.ok c.cm c.dm:=by
 unfold callR
 split
 · exact CA.ok _
 · exact h
noncomputable def sp_wcall (nm:Nat) (de:Bool):SpW:=fun args w=>match args with
 | [.one (.ptr 0 0),.one (.b64 true id),.agg [.b64 false a0,.b64 false a1,.b64 false a2,.b64 false a3,.b64 false a4]]=>(match exW nm de w with
   | some (c,s)=>some (.p (w=wB nm de 0 c s∧s.ok c.cm c.dm),.tup [(false,[.b64 false (callR nm de c s id a0 a1 a2 a3 a4).v]),(false,[.b64 true (callR nm de c s id a0 a1 a2 a3 a4).e])],wU nm de 0 c (callR nm de c s id a0 a1 a2 a3 a4).s)
   | none=>none)
 | _=>none
theorem e_wcall (nm:Nat) (de:Bool):EntryW Tryd.prog anyWorld 95 (sp_wcall nm de):=by
 refine .of_FI (C_w_ok nm) (by kernel_rfl) Tryd.func95 (by kernel_rfl) (by kernel_rfl) (fun args ch c v ups h hc=> ?_)
 unfold sp_wcall at h
 split at h
 · split at h
   · rename_i e
     cases h
     obtain ⟨hw,ok⟩:=hc
     have hn:=(exW_ok e).1
     subst hw
     unfold callR
     rw [dif_pos ⟨hn,ok⟩]
     exact Classical.choose_spec (call_ex _ _ hn _ _ ok _ _ _ _ _ _)
   · cases h
 · cases h
end Go.Proofs.YthkgakelgdncjaaDoor
