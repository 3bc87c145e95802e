/-
  Chapter 23: the tables of HardenTell. Conditions: as typed.
-/
import Derived.Test.YthkgakelgdncjaaDoorHc
import Derived.Test.YthkgakelgdncjaaDoorOx
import Derived.Test.YthkgakelgdncjaaDoorOz
namespace Go.Proofs.YthkgakelgdncjaaDoor
open Go.Ep Go.RowKit
set_option linter.unusedVariables false
set_option linter.unusedSimpArgs false
theorem ok_G {P : Program} {G : World → Prop} {f : FuncId} {sp : Sp} (e : EntryOK P anyWorld f sp) : EntryOK P G f sp :=
  ⟨e.fn, fun args c v h1 h2 => ⟨(e.calls args c v h1 h2).1, fun us ρ hr w _ => (e.calls args c v h1 h2).2 us ρ hr w trivial⟩⟩
def sp_fen : Sp
  | [] => some (Cond.t, .one (.bool true))
  | _ => none
abbrev tb_H : List (Nat × Sp) := [(6, sp_fen), (24, sp_hm), (19, sp_hj)]
noncomputable abbrev ms_H : List (Nat × SpM) := [(23, spS 5 sq_half), (15, spS 5 sq_chk), (11, spS 5 sq_chk)]
noncomputable abbrev FSh : List (Nat × Func) := [(7, Tryd.f7), (8, Tryd.f8), (22, Tryd.f22), (9, Tryd.f9), (20, Tryd.f20), (21, Tryd.f21)]
theorem fs_h : FsOK Tryd.prog FSh := FsOK.cons Tryd.func7 (by kernel_rfl) (by kernel_rfl) (FsOK.cons Tryd.func8 (by kernel_rfl) (by kernel_rfl) (FsOK.cons Tryd.func22 (by kernel_rfl) (by kernel_rfl) (FsOK.cons Tryd.func9 (by kernel_rfl) (by kernel_rfl) (FsOK.cons Tryd.func20 (by kernel_rfl) (by kernel_rfl) (FsOK.cons Tryd.func21 (by kernel_rfl) (by kernel_rfl) (FsOK.nil))))))
noncomputable abbrev C_H0 : Table := withMk (tabM Dbar tb_H ms_H) [(17, spKS 5 sq_targets), (18, spKS 5 sq_halves)]
noncomputable abbrev C_H : Table := ⟨C_H0.fn, C_H0.glob, C_H0.look, inlN Tryd.prog C_H0 FSh 4, .sym, 0, 0, [], C_H0.mkr, []⟩
theorem CI_H {G : World → Prop} (h : CSound Tryd.prog G C_H0) : CSound Tryd.prog G C_H := h.inl' (inlN_sound h (by kernel_rfl) fs_h 4) .sym 0 0 [] []
end Go.Proofs.YthkgakelgdncjaaDoor
