/-
  Chapter 20: what its functions answer. Conditions: as typed.
-/
import Derived.Test.YtiopddomdpoaaaaRb
import Derived.Test.YtiopddomdpoaaaaRc
import Derived.Test.YtiopddomdpoaaaaZs
namespace Go.Proofs.Ytiopddomdpoaaaa
open Go.Ep Go.RowKit
set_option linter.unusedVariables false
set_option linter.unusedSimpArgs false

def sp_frames_Sure : Sp
  | [.agg [.seg z m f, .seg z' m' h, .b64 true nx], .one (.b64 true id), .one (.b64 true many)] => match Nat.beq z 11, Nat.beq m 11, Nat.beq z' 12, Nat.beq m' 64 with
    | true, true, true, true => some (Cond.p (f = rgF (rOf f) ∧ h = plF (gOf h)), .agg [.seg 11 11 (rgF (mapR (sureV id many) (rOf f))), .seg 12 64 (plF (mapP (sureV id many) (gOf h))), .b64 true nx])
    | _, _, _, _ => none
  | _ => none
theorem fs_frames_Sure : FsOK Try.prog FE := FsOK.cons Try.func43 (by kernel_rfl) (by kernel_rfl) (FsOK.cons Try.func44 (by kernel_rfl) (by kernel_rfl) (FsOK.nil))
set_option maxRecDepth 100000 in
theorem e_frames_Sure : EntryOK Try.prog anyWorld 27 sp_frames_Sure := by
  refine .of_F (C_firewalllaw19_value.tabI (by kernel_rfl) fs_frames_Sure 4) (by kernel_rfl) Try.func27 (by kernel_rfl) (by kernel_rfl) (fun args c v h hc => ?_)
  unfold sp_frames_Sure at h
  split at h
  · rename_i z m f z' m' g nx x y
    split at h
    · rename_i h1 h2 h3 h4
      obtain rfl : z = 11 := by simpa using h1
      obtain rfl : m = 11 := by simpa using h2
      obtain rfl : z' = 12 := by simpa using h3
      obtain rfl : m' = 64 := by simpa using h4
      cases h
      obtain ⟨e1, e2⟩ := hc
      refine ⟨rfl, rfl, ?_⟩
      generalize rOf f = r at e1 ⊢
      generalize gOf g = g' at e2 ⊢
      subst e1 e2
      exact Sure_walk r g' nx x y
    · cases h
  · cases h

def sp_frames_Found : Sp
  | [.agg [.seg z m f, .seg z' m' h, .b64 true nx], .one (.b64 true id), .one (.bool is)] => match Nat.beq z 11, Nat.beq m 11, Nat.beq z' 12, Nat.beq m' 64 with
    | true, true, true, true => some (Cond.p (f = rgF (rOf f) ∧ h = plF (gOf h)), .agg [.seg 11 11 (rgF (mapR (foundV id is) (rOf f))), .seg 12 64 (plF (mapP (foundV id is) (gOf h))), .b64 true nx])
    | _, _, _, _ => none
  | _ => none
theorem fs_frames_Found : FsOK Try.prog FFo := FsOK.cons Try.func43 (by kernel_rfl) (by kernel_rfl) (FsOK.cons Try.func45 (by kernel_rfl) (by kernel_rfl) (FsOK.nil))
set_option maxRecDepth 100000 in
theorem e_frames_Found : EntryOK Try.prog anyWorld 28 sp_frames_Found := by
  refine .of_F (C_firewalllaw19_value.tabI (by kernel_rfl) fs_frames_Found 4) (by kernel_rfl) Try.func28 (by kernel_rfl) (by kernel_rfl) (fun args c v h hc => ?_)
  unfold sp_frames_Found at h
  split at h
  · rename_i z m f z' m' g nx x y
    split at h
    · rename_i h1 h2 h3 h4
      obtain rfl : z = 11 := by simpa using h1
      obtain rfl : m = 11 := by simpa using h2
      obtain rfl : z' = 12 := by simpa using h3
      obtain rfl : m' = 64 := by simpa using h4
      cases h
      obtain ⟨e1, e2⟩ := hc
      refine ⟨rfl, rfl, ?_⟩
      generalize rOf f = r at e1 ⊢
      generalize gOf g = g' at e2 ⊢
      subst e1 e2
      exact Found_walk r g' nx x y
    · cases h
  · cases h

set_option maxRecDepth 100000 in
theorem e_begun : EntryOK Try.prog anyWorld 17 spT := .of_ZT (pu := puZ) (im := imZ) (fuel := 1000) (n := 12) (m := 8) C_start (by kernel_rfl) fs_Z (by kernel_rfl)
abbrev tb_20 : List (Nat × Sp) := (17, spT) :: (28, sp_frames_Found) :: (27, sp_frames_Sure) :: tb_firewalllaw19_value
theorem C_20 : CSound Try.prog anyWorld (tab noData tb_20) := ((C_firewalllaw19_value.cons e_frames_Sure).cons e_frames_Found).cons e_begun
end Go.Proofs.Ytiopddomdpoaaaa
