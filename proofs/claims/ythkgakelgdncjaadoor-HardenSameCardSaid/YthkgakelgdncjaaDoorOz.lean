/- Chapter 04: the document's Check, outside, and the lengths that may not be; its contract. Conditions: as typed. -/
import Derived.Test.YthkgakelgdncjaaDoorOy
import Derived.Test.YthkgakelgdncjaaDoorOx
namespace Go.Proofs.YthkgakelgdncjaaDoor
open Go.Ep Go.RowKit
set_option linter.unusedVariables false
set_option linter.unusedSimpArgs false
set_option maxRecDepth 100000 in
theorem RefZ_ (w:Bool) (T:TypeId) (cap:Nat) (g:Nat→List PL) (m:BitVec 64) :
 FI Tryd.prog C_r Tryd.f11 1 [.one (.slc 0 0 0 cap),.one (.b64 true m),.one (.bool w)] [(0,.ro T [.seg 5 0 g])] (fun r _=>r= .tup [(false,[.b64 true 0#64]),(false,[.b64 true 3#64])]):=by
 cases w
 all_goals repeat' (first
  | (with_reducible apply Given.mk;intro h;(try simp only [BitVec.reduceBNe,BitVec.reduceBEq,reduceCtorEq,Bool.true_eq_false,Bool.false_eq_true,Bool.not_true,Bool.not_false] at h);(try exact absurd h (by decide)))
  | ((conv=>whnf);with_reducible apply Both.mk))
 all_goals first
  | (with_reducible apply Ob.mk;kernel_rfl)
  | ((with_reducible apply Ob.mk);first | decide | (show len<9223372036854775808;omega))
  | ((conv=>whnf);exact rfl)
  | ((conv=>whnf);skip)
set_option maxRecDepth 100000 in
theorem RefN_ (w:Bool) (ad:Option Addr) (cap:Nat) (m:BitVec 64) :
 FI Tryd.prog C_r Tryd.f11 1 [.one (.raw (.slice ad 0 cap)),.one (.b64 true m),.one (.bool w)] [] (fun r _=>r= .tup [(false,[.b64 true 0#64]),(false,[.b64 true 3#64])]):=by
 cases w
 all_goals repeat' (first
  | (with_reducible apply Given.mk;intro h;(try simp only [BitVec.reduceBNe,BitVec.reduceBEq,reduceCtorEq,Bool.true_eq_false,Bool.false_eq_true,Bool.not_true,Bool.not_false] at h);(try exact absurd h (by decide)))
  | ((conv=>whnf);with_reducible apply Both.mk))
 all_goals first
  | (with_reducible apply Ob.mk;kernel_rfl)
  | ((with_reducible apply Ob.mk);first | decide | (show len<9223372036854775808;omega))
  | ((conv=>whnf);exact rfl)
  | ((conv=>whnf);skip)
set_option maxRecDepth 100000 in
theorem RefB_ (w:Bool) (T:TypeId) (len cap:Nat) (x:IT) (m:BitVec 64) (hl:len≤8000) (f0:(BitVec.ofNat 64 len).slt 1#64=false) (f1:(192#64).slt (BitVec.ofNat 64 len)=true) :
 FI Tryd.prog C_r Tryd.f11 1 [.one (.slc 0 0 len cap),.one (.b64 true m),.one (.bool w)] [(0,.ro T [.seg 5 len (inF x)])] (fun r _=>r= .tup [(false,[.b64 true 0#64]),(false,[.b64 true 3#64])]):=by
 cases w
 all_goals repeat' (first
  | (with_reducible apply Given.mk;intro h;(try simp only [f0,f1,BitVec.reduceBNe,BitVec.reduceBEq,reduceCtorEq,Bool.true_eq_false,Bool.false_eq_true,Bool.not_true,Bool.not_false] at h);(try exact absurd h (by decide)))
  | ((conv=>whnf);with_reducible apply Both.mk))
 all_goals first
  | (with_reducible apply Ob.mk;kernel_rfl)
  | ((with_reducible apply Ob.mk);first | decide | (show len<9223372036854775808;omega))
  | ((conv=>whnf);exact rfl)
  | ((conv=>whnf);skip)
set_option maxRecDepth 100000 in
theorem RefC_ (T:TypeId) (len cap:Nat) (x:IT) (m:BitVec 64) (hl:len≤8000) (f0:(BitVec.ofNat 64 len).slt 1#64=false) (f1:(192#64).slt (BitVec.ofNat 64 len)=false) (f2:(64#64).slt (BitVec.ofNat 64 len)=true) :
 FI Tryd.prog C_r Tryd.f11 1 [.one (.slc 0 0 len cap),.one (.b64 true m),.one (.bool false)] [(0,.ro T [.seg 5 len (inF x)])] (fun r _=>r= .tup [(false,[.b64 true 0#64]),(false,[.b64 true 3#64])]):=by
 all_goals repeat' (first
  | (with_reducible apply Given.mk;intro h;(try simp only [f0,f1,f2,BitVec.reduceBNe,BitVec.reduceBEq,reduceCtorEq,Bool.true_eq_false,Bool.false_eq_true,Bool.not_true,Bool.not_false] at h);(try exact absurd h (by decide)))
  | ((conv=>whnf);with_reducible apply Both.mk))
 all_goals first
  | (with_reducible apply Ob.mk;kernel_rfl)
  | ((with_reducible apply Ob.mk);first | decide | (show len<9223372036854775808;omega))
  | ((conv=>whnf);exact rfl)
  | ((conv=>whnf);skip)
set_option maxRecDepth 100000 in
theorem e_RefCheck:EntryM Tryd.prog anyWorld 11 (spS 5 sq_chk):=by
 refine .of_slice CI_r (by kernel_rfl) Tryd.func11 (by kernel_rfl) (by kernel_rfl) (fun len g rest c v h hc=> ?_) (fun rest c v h hc ad cap=> ?_)
 · unfold sq_chk at h
   split at h
   · rename_i m w
     cases h
     obtain ⟨h1,h2⟩:=hc
     refine ⟨rfl,rfl,fun T cap=> ?_⟩
     by_cases e:len=0
     · subst e
       rw [← ans_L (x:=inOf g) (m:=m) (w:=w) (.inl rfl)]
       exact RefZ_ w T cap g m
     · replace h2:=h2.resolve_left e
       generalize inOf g=x at h2
       subst h2
       have f0:(BitVec.ofNat 64 len).slt 1#64=false:=(slt_nat (a:=len) (b:=1) (by omega) (by decide)).trans (decide_eq_false (by omega))
       have g1:=slt_nat (a:=192) (b:=len) (by decide) (by omega)
       have g2:=slt_nat (a:=64) (b:=len) (by decide) (by omega)
       by_cases hb:mostN w<len
       · rw [← ans_L (x:=x) (m:=m) (w:=w) (.inr hb)]
         cases w
         · by_cases h192:192<len
           · exact RefB_ _ T len cap x m h1 f0 (g1.trans (decide_eq_true h192))
           · exact RefC_ T len cap x m h1 f0 (g1.trans (decide_eq_false h192)) (g2.trans (decide_eq_true hb))
         · exact RefB_ _ T len cap x m h1 f0 (g1.trans (decide_eq_true hb))
       · have hn:¬ (len=0∨mostN w<len):=fun h=>h.elim e hb
         have h192:¬ 192<len:=by
          cases w
          · have hb:¬ 64<len:=hb
            omega
          · exact hb
         exact Ref_ w T len cap x m h1 (by omega) hn f0 (g1.trans (decide_eq_false h192)) (fun e=>by subst e;have hb:¬ 64<len:=hb;exact g2.trans (decide_eq_false hb))
   · cases h
 · unfold sq_chk at h
   split at h
   · rename_i m w
     cases h
     rw [← ans_L (x:=inOf fun _=>[]) (m:=m) (w:=w) (.inl rfl)]
     exact RefN_ w ad cap m
   · cases h
end Go.Proofs.YthkgakelgdncjaaDoor
