/- HardenSame: harden.Harden, a maker: the contracts. Conditions: as typed. -/
import Derived.Test.YthkgakelgdncjaaDoorUq
import Derived.Test.YthkgakelgdncjaaDoorUs
import Derived.Test.YthkgakelgdncjaaDoorMc
namespace Go.Proofs.YthkgakelgdncjaaDoor
open Go.Ep Go.RowKit
set_option linter.unusedVariables false
set_option linter.unusedSimpArgs false
noncomputable def sp_har2:SpN:=fun args ch=>match args,ch with
 | [.one (.slc 0 0 len cap),.one (.slc 1 0 ns cap2)],[(0,.ro T [.seg 5 len2 fl]),(1,.ro T2 [.seg 1 ns2 fs])]=>some (.p (len=len2∧fl=inF (inOf fl)∧(chk4 (inOf fl) len 4#64 false).2=0#64∧ns=ns2∧fs=bF (boOf fs)∧ns<9223372036854775808),.tup [(false,[.slc 2 0 (lenO (barB (inOf fl) len (boOf fs) ns) len) (lenO (barB (inOf fl) len (boOf fs) ns) len)]),(false,[.slc 3 0 (lenO (barB (inOf fl) len (boOf fs) ns) len) (lenO (barB (inOf fl) len (boOf fs) ns) len)]),(false,[.b64 true 0#64])],[.row 54 5 (lenO (barB (inOf fl) len (boOf fs) ns) len) (inF (out2 (inOf fl) (barB (inOf fl) len (boOf fs) ns) len (lenO (barB (inOf fl) len (boOf fs) ns) len))),.row 3 1 (lenO (barB (inOf fl) len (boOf fs) ns) len) (iF (frO (barB (inOf fl) len (boOf fs) ns) len))])
 | _,_=>none
set_option maxRecDepth 100000 in
theorem e_har2:EntryN Tryd.prog Gbar 7 sp_har2:=by
 refine .of_FI C_f_ok (by kernel_rfl) Tryd.func7 (by kernel_rfl) (by kernel_rfl) (fun args ch c v fr h hc=> ?_)
 unfold sp_har2 at h
 split at h
 · rename_i len cap ns cap2 T len2 fl T2 ns2 fs
   cases h
   obtain ⟨rfl,hl,hk,rfl,hs,hn⟩:=hc
   generalize inOf fl=x at *
   subst hl
   generalize boOf fs=st at *
   subst hs
   have G:Good x len 4#64 false:=good_of hk
   have h64:len≤64:=n64 G
   have f1:(64#64).slt (BitVec.ofNat 64 len)=false:=by
    have:=slt_nat (a:=64) (b:=len) (by omega) (by omega)
    exact this.trans (decide_eq_false (by omega))
   have f0:len.beq 0=false:=by have:=G.pos;cases len with
    | zero=>omega
    | succ n=>rfl
   have f2:((chk4 (inOf (inF x)) len 4#64 false).2==0#64)=true:=by rw [show inOf (inF x)=x from rfl,hk];rfl
   exact Har_S T T2 len cap ns cap2 x st h64 hn G f1 f0 f2 _ rfl
 · cases h
noncomputable def sp_har1:SpN:=fun args ch=>match args,ch with
 | [.one (.slc 0 0 len cap),.one (.raw v)],[(0,.ro T [.seg 5 len2 fl])]=>some (.p (len=len2∧fl=inF (inOf fl)∧(chk4 (inOf fl) len 4#64 false).2=0#64∧∃ ad cap2,v= .slice ad 0 cap2),.tup [(false,[.slc 1 0 (lenO (barB (inOf fl) len (fun _=>false) 0) len) (lenO (barB (inOf fl) len (fun _=>false) 0) len)]),(false,[.slc 2 0 (lenO (barB (inOf fl) len (fun _=>false) 0) len) (lenO (barB (inOf fl) len (fun _=>false) 0) len)]),(false,[.b64 true 0#64])],[.row 54 5 (lenO (barB (inOf fl) len (fun _=>false) 0) len) (inF (out2 (inOf fl) (barB (inOf fl) len (fun _=>false) 0) len (lenO (barB (inOf fl) len (fun _=>false) 0) len))),.row 3 1 (lenO (barB (inOf fl) len (fun _=>false) 0) len) (iF (frO (barB (inOf fl) len (fun _=>false) 0) len))])
 | _,_=>none
set_option maxRecDepth 100000 in
theorem e_har1:EntryN Tryd.prog Gbar 7 sp_har1:=by
 refine .of_FI C_f_ok (by kernel_rfl) Tryd.func7 (by kernel_rfl) (by kernel_rfl) (fun args ch c v fr h hc=> ?_)
 unfold sp_har1 at h
 split at h
 · rename_i len cap v T len2 fl
   cases h
   obtain ⟨rfl,hl,hk,ad,cap2,rfl⟩:=hc
   generalize inOf fl=x at *
   subst hl
   have G:Good x len 4#64 false:=good_of hk
   have h64:len≤64:=n64 G
   have f1:(64#64).slt (BitVec.ofNat 64 len)=false:=by
    have:=slt_nat (a:=64) (b:=len) (by omega) (by omega)
    exact this.trans (decide_eq_false (by omega))
   have f0:len.beq 0=false:=by have:=G.pos;cases len with
    | zero=>omega
    | succ n=>rfl
   have f2:((chk4 (inOf (inF x)) len 4#64 false).2==0#64)=true:=by rw [show inOf (inF x)=x from rfl,hk];rfl
   exact Har_N T 0 len cap cap2 ad x (fun _=>false) h64 (by decide) G f1 f0 f2 _ rfl
 · cases h
end Go.Proofs.YthkgakelgdncjaaDoor
