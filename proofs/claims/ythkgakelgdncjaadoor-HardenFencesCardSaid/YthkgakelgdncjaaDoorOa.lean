/-
  Chapter 04: what its functions of one instruction answer: by the evaluator. Conditions: none.
-/
import Derived.Test.YthkgakelgdncjaaDoorNe
import Derived.Test.YthkgakelgdncjaaDoorOm
namespace Go.Proofs.YthkgakelgdncjaaDoor
open Go.Ep Go.RowKit
set_option linter.unusedVariables false
set_option linter.unusedSimpArgs false

def sp_progs_jumps : Sp
  | [.agg [.b8 false o, .b8 false d, .b8 false s, .b16 true f, .b32 true i]] => some (Cond.t, .one (.bool (jmpB o)))
  | _ => none
set_option maxRecDepth 100000 in
set_option maxHeartbeats 4000000 in
theorem e_progs_jumps : EntryOK Tryd.prog anyWorld 47 sp_progs_jumps := by
  refine .of_F (C_b) (by kernel_rfl) Tryd.func47 (by kernel_rfl) (by kernel_rfl) (fun args c v h hc => ?_)
  unfold sp_progs_jumps at h
  split at h
  · rename_i o d s f i; cases h
    refine ⟨rfl, rfl, ?_⟩
    repeat' (first
      | (with_reducible apply Given.mk; intro h; (try exact absurd h (by decide)))
      | ((conv => whnf); with_reducible apply Both.mk))
    all_goals first
      | (with_reducible apply Ob.mk; kernel_rfl)
      | (with_reducible apply Ob.mk; decide)
      | ((conv => whnf); refine ⟨?_⟩; simp only [AV.one.injEq, L.bool.injEq]; clear d s f i; revert o; decide +kernel)
  · cases h
abbrev tb_progs_jumps : List (Nat × Sp) := (47, sp_progs_jumps) :: tb_b
theorem C_progs_jumps : CSound Tryd.prog anyWorld (tab noData (tb_progs_jumps)) := (C_b).cons (e_progs_jumps)

def sp_progs_always : Sp
  | [.agg [.b8 false o, .b8 false d, .b8 false s, .b16 true f, .b32 true i]] => some (Cond.t, .one (.bool (alwB o)))
  | _ => none
set_option maxRecDepth 100000 in
set_option maxHeartbeats 4000000 in
theorem e_progs_always : EntryOK Tryd.prog anyWorld 45 sp_progs_always := by
  refine .of_F (C_progs_jumps) (by kernel_rfl) Tryd.func45 (by kernel_rfl) (by kernel_rfl) (fun args c v h hc => ?_)
  unfold sp_progs_always at h
  split at h
  · rename_i o d s f i; cases h
    refine ⟨rfl, rfl, ?_⟩
    repeat' (first
      | (with_reducible apply Given.mk; intro h; (try exact absurd h (by decide)))
      | ((conv => whnf); with_reducible apply Both.mk))
    all_goals first
      | (with_reducible apply Ob.mk; kernel_rfl)
      | (with_reducible apply Ob.mk; decide)
      | ((conv => whnf); refine ⟨?_⟩; simp only [AV.one.injEq, L.bool.injEq]; clear d s f i; revert o; decide +kernel)
  · cases h
abbrev tb_progs_always : List (Nat × Sp) := (45, sp_progs_always) :: tb_progs_jumps
theorem C_progs_always : CSound Tryd.prog anyWorld (tab noData (tb_progs_always)) := (C_progs_jumps).cons (e_progs_always)

def sp_progs_ends : Sp
  | [.agg [.b8 false o, .b8 false d, .b8 false s, .b16 true f, .b32 true i]] => some (Cond.t, .one (.bool (endB o)))
  | _ => none
set_option maxRecDepth 100000 in
set_option maxHeartbeats 4000000 in
theorem e_progs_ends : EntryOK Tryd.prog anyWorld 44 sp_progs_ends := by
  refine .of_F (C_progs_always) (by kernel_rfl) Tryd.func44 (by kernel_rfl) (by kernel_rfl) (fun args c v h hc => ?_)
  unfold sp_progs_ends at h
  split at h
  · rename_i o d s f i; cases h
    refine ⟨rfl, rfl, ?_⟩
    repeat' (first
      | (with_reducible apply Given.mk; intro h; (try exact absurd h (by decide)))
      | ((conv => whnf); with_reducible apply Both.mk))
    all_goals first
      | (with_reducible apply Ob.mk; kernel_rfl)
      | (with_reducible apply Ob.mk; decide)
      | ((conv => whnf); refine ⟨?_⟩; simp only [AV.one.injEq, L.bool.injEq]; clear d s f i; revert o; decide +kernel)
  · cases h
abbrev tb_progs_ends : List (Nat × Sp) := (44, sp_progs_ends) :: tb_progs_always
theorem C_progs_ends : CSound Tryd.prog anyWorld (tab noData (tb_progs_ends)) := (C_progs_always).cons (e_progs_ends)

def sp_progs_size : Sp
  | [.agg [.b8 false o, .b8 false d, .b8 false s, .b16 true f, .b32 true i]] => some (Cond.t, .one (.b64 true (szV o)))
  | _ => none
set_option maxRecDepth 100000 in
set_option maxHeartbeats 4000000 in
theorem e_progs_size : EntryOK Tryd.prog anyWorld 46 sp_progs_size := by
  refine .of_F (C_progs_ends) (by kernel_rfl) Tryd.func46 (by kernel_rfl) (by kernel_rfl) (fun args c v h hc => ?_)
  unfold sp_progs_size at h
  split at h
  · rename_i o d s f i; cases h
    refine ⟨rfl, rfl, ?_⟩
    repeat' (first
      | (with_reducible apply Given.mk; intro h; (try exact absurd h (by decide)))
      | ((conv => whnf); with_reducible apply Both.mk))
    all_goals first
      | (with_reducible apply Ob.mk; kernel_rfl)
      | (with_reducible apply Ob.mk; decide)
      | ((conv => whnf); refine ⟨?_⟩; simp only [AV.one.injEq, L.b64.injEq, true_and]; clear d s f i; revert o; decide +kernel)
  · cases h
abbrev tb_progs_size : List (Nat × Sp) := (46, sp_progs_size) :: tb_progs_ends
theorem C_progs_size : CSound Tryd.prog anyWorld (tab noData (tb_progs_size)) := (C_progs_ends).cons (e_progs_size)

def sp_firewallref04_Jumps : Sp
  | [.agg [.b8 false o, .b8 false d, .b8 false s, .b16 true f, .b32 true i]] => some (Cond.t, .one (.bool (jmpB o)))
  | _ => none
set_option maxRecDepth 100000 in
set_option maxHeartbeats 4000000 in
theorem e_firewallref04_Jumps : EntryOK Tryd.prog anyWorld 52 sp_firewallref04_Jumps := by
  refine .of_F (C_progs_size) (by kernel_rfl) Tryd.func52 (by kernel_rfl) (by kernel_rfl) (fun args c v h hc => ?_)
  unfold sp_firewallref04_Jumps at h
  split at h
  · rename_i o d s f i; cases h
    refine ⟨rfl, rfl, ?_⟩
    repeat' (first
      | (with_reducible apply Given.mk; intro h; (try exact absurd h (by decide)))
      | ((conv => whnf); with_reducible apply Both.mk))
    all_goals first
      | (with_reducible apply Ob.mk; kernel_rfl)
      | (with_reducible apply Ob.mk; decide)
      | ((conv => whnf); refine ⟨?_⟩; simp only [AV.one.injEq, L.bool.injEq]; clear d s f i; revert o; decide +kernel)
  · cases h
abbrev tb_firewallref04_Jumps : List (Nat × Sp) := (52, sp_firewallref04_Jumps) :: tb_progs_size
theorem C_firewallref04_Jumps : CSound Tryd.prog anyWorld (tab noData (tb_firewallref04_Jumps)) := (C_progs_size).cons (e_firewallref04_Jumps)

def sp_firewallref04_Always : Sp
  | [.agg [.b8 false o, .b8 false d, .b8 false s, .b16 true f, .b32 true i]] => some (Cond.t, .one (.bool (alwB o)))
  | _ => none
set_option maxRecDepth 100000 in
set_option maxHeartbeats 4000000 in
theorem e_firewallref04_Always : EntryOK Tryd.prog anyWorld 55 sp_firewallref04_Always := by
  refine .of_F (C_firewallref04_Jumps) (by kernel_rfl) Tryd.func55 (by kernel_rfl) (by kernel_rfl) (fun args c v h hc => ?_)
  unfold sp_firewallref04_Always at h
  split at h
  · rename_i o d s f i; cases h
    refine ⟨rfl, rfl, ?_⟩
    repeat' (first
      | (with_reducible apply Given.mk; intro h; (try exact absurd h (by decide)))
      | ((conv => whnf); with_reducible apply Both.mk))
    all_goals first
      | (with_reducible apply Ob.mk; kernel_rfl)
      | (with_reducible apply Ob.mk; decide)
      | ((conv => whnf); refine ⟨?_⟩; simp only [AV.one.injEq, L.bool.injEq]; clear d s f i; revert o; decide +kernel)
  · cases h
abbrev tb_firewallref04_Always : List (Nat × Sp) := (55, sp_firewallref04_Always) :: tb_firewallref04_Jumps
theorem C_firewallref04_Always : CSound Tryd.prog anyWorld (tab noData (tb_firewallref04_Always)) := (C_firewallref04_Jumps).cons (e_firewallref04_Always)

def sp_firewallref04_Ends : Sp
  | [.agg [.b8 false o, .b8 false d, .b8 false s, .b16 true f, .b32 true i]] => some (Cond.t, .one (.bool (endB o)))
  | _ => none
set_option maxRecDepth 100000 in
set_option maxHeartbeats 4000000 in
theorem e_firewallref04_Ends : EntryOK Tryd.prog anyWorld 54 sp_firewallref04_Ends := by
  refine .of_F (C_firewallref04_Always) (by kernel_rfl) Tryd.func54 (by kernel_rfl) (by kernel_rfl) (fun args c v h hc => ?_)
  unfold sp_firewallref04_Ends at h
  split at h
  · rename_i o d s f i; cases h
    refine ⟨rfl, rfl, ?_⟩
    repeat' (first
      | (with_reducible apply Given.mk; intro h; (try exact absurd h (by decide)))
      | ((conv => whnf); with_reducible apply Both.mk))
    all_goals first
      | (with_reducible apply Ob.mk; kernel_rfl)
      | (with_reducible apply Ob.mk; decide)
      | ((conv => whnf); refine ⟨?_⟩; simp only [AV.one.injEq, L.bool.injEq]; clear d s f i; revert o; decide +kernel)
  · cases h
abbrev tb_firewallref04_Ends : List (Nat × Sp) := (54, sp_firewallref04_Ends) :: tb_firewallref04_Always
theorem C_firewallref04_Ends : CSound Tryd.prog anyWorld (tab noData (tb_firewallref04_Ends)) := (C_firewallref04_Always).cons (e_firewallref04_Ends)

def sp_firewallref03_Half : Sp
  | [.agg [.b8 false o, .b8 false d, .b8 false s, .b16 true f, .b32 true i], .one (.bool w)] => some (Cond.t, .one (.bool (o == 0#8 && (d == 0#8 && (s == 0#8 && (f == 0#16 && (i == 0#32 || !w)))))))
  | _ => none
set_option maxRecDepth 100000 in
set_option maxHeartbeats 4000000 in
theorem e_firewallref03_Half : EntryOK Tryd.prog anyWorld 51 sp_firewallref03_Half := by
  refine .of_F (C_firewallref04_Ends) (by kernel_rfl) Tryd.func51 (by kernel_rfl) (by kernel_rfl) (fun args c v h hc => ?_)
  unfold sp_firewallref03_Half at h
  split at h
  · rename_i o d s f i w; cases h
    refine ⟨rfl, rfl, ?_⟩
    repeat' (first
      | (with_reducible apply Given.mk; intro h; (try exact absurd h (by decide)))
      | ((conv => whnf); with_reducible apply Both.mk))
    all_goals first
      | (with_reducible apply Ob.mk; kernel_rfl)
      | (with_reducible apply Ob.mk; decide)
      | ((conv => whnf); refine ⟨?_⟩; first | rfl | (simp_all; done))
  · cases h
abbrev tb_firewallref03_Half : List (Nat × Sp) := (51, sp_firewallref03_Half) :: tb_firewallref04_Ends
theorem C_firewallref03_Half : CSound Tryd.prog anyWorld (tab noData (tb_firewallref03_Half)) := (C_firewallref04_Ends).cons (e_firewallref03_Half)

end Go.Proofs.YthkgakelgdncjaaDoor

