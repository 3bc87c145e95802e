/-
  Exec of a shift of the first register, as a contract. Conditions: as typed.
-/
import Derived.Test.YtppankimieopiaaDoorCpG
namespace Go.Proofs.YtppankimieopiaaDoor
open Go.El Go.RowKit
set_option linter.unusedVariables false
set_option linter.unusedSimpArgs false

noncomputable abbrev FU : List (Nat × Func) := [(39, Tryd.f39), (13, Tryd.f13), (29, Tryd.f29), (30, Tryd.f30), (74, Tryd.f74), (75, Tryd.f75)]
theorem C_uh (m : Nat → Nat) : CSound Tryd.prog (GU m) (tabI Tryd.prog (DU m) (tb_firewalllaw12_done m) FU 6) := CSound.tabI (C_u m) (by kernel_rfl) fs_firewalllaw12_done 6
set_option maxRecDepth 100000 in
set_option maxHeartbeats 4000000 in
theorem sx11 (m : Nat → Nat) (al cc sz : BitVec 64) (w sh : Bool) (dp rl : BitVec 32) (im : BitVec 64) (r0 r1 r2 r3 r4 r5 r6 r7 r8 r9 r10 r11 r12 r13 r14 r15 : BitVec 64) (fz fs fc fo : Bool) (pc : BitVec 64) (hq : qld 11#64 al cc sz w sh 0#64 0#64 dp rl im = true) : F Tryd.prog (tabI Tryd.prog (DU m) (tb_firewalllaw12_done m) FU 6) Tryd.f13 [.agg [.b64 true 11#64, .b64 true al, .b64 true cc, .b64 true sz, .bool w, .bool sh, .b64 true 0#64, .b64 true 0#64, .b32 true dp, .b32 true rl, .b64 true im], .agg [.b64 false r0, .b64 false r1, .b64 false r2, .b64 false r3, .b64 false r4, .b64 false r5, .b64 false r6, .b64 false r7, .b64 false r8, .b64 false r9, .b64 false r10, .b64 false r11, .b64 false r12, .b64 false r13, .b64 false r14, .b64 false r15, .bool fz, .bool fs, .bool fc, .bool fo, .b64 false pc]] (fun r => r = .tup [(true, [.b64 false (aluD 176#8 w 0#64 (aluD (sfV al) w r0 im)), .b64 false r1, .b64 false r2, .b64 false r3, .b64 false r4, .b64 false r5, .b64 false r6, .b64 false r7, .b64 false r8, .b64 false r9, .b64 false r10, .b64 false r11, .b64 false r12, .b64 false r13, .b64 false r14, .b64 false r15, .bool fz, .bool fs, .bool fc, .bool fo, .b64 false pc]), (false, [.b64 true 0#64])]) := by
  repeat' (first
    | (with_reducible apply Given.mk; intro h; (try simp only [hq, Bool.not_true, Bool.true_eq_false, Bool.false_eq_true] at h); (try exact absurd h (by decide +kernel)); (try exact no2 h (by with_reducible assumption)); (try exact no2 (by with_reducible assumption) h))
    | ((conv => whnf); first | with_reducible apply Both.mk | refine LoopP.times 11 ?_))
  all_goals first
    | (with_reducible apply Ob.mk; kernel_rfl)
    | (with_reducible apply Ob.mk; decide +kernel)
    | ((conv => whnf); exact ⟨rfl⟩)
    | ((conv => whnf); skip)
set_option maxRecDepth 100000 in
set_option maxHeartbeats 4000000 in
theorem sx12 (m : Nat → Nat) (al cc sz : BitVec 64) (w sh : Bool) (dp rl : BitVec 32) (im : BitVec 64) (r0 r1 r2 r3 r4 r5 r6 r7 r8 r9 r10 r11 r12 r13 r14 r15 : BitVec 64) (fz fs fc fo : Bool) (pc : BitVec 64) (hq : qld 12#64 al cc sz w sh 0#64 0#64 dp rl im = true) : F Tryd.prog (tabI Tryd.prog (DU m) (tb_firewalllaw12_done m) FU 6) Tryd.f13 [.agg [.b64 true 12#64, .b64 true al, .b64 true cc, .b64 true sz, .bool w, .bool sh, .b64 true 0#64, .b64 true 0#64, .b32 true dp, .b32 true rl, .b64 true im], .agg [.b64 false r0, .b64 false r1, .b64 false r2, .b64 false r3, .b64 false r4, .b64 false r5, .b64 false r6, .b64 false r7, .b64 false r8, .b64 false r9, .b64 false r10, .b64 false r11, .b64 false r12, .b64 false r13, .b64 false r14, .b64 false r15, .bool fz, .bool fs, .bool fc, .bool fo, .b64 false pc]] (fun r => r = .tup [(true, [.b64 false (aluD 176#8 w 0#64 (aluD (sfV al) w r0 r1)), .b64 false r1, .b64 false r2, .b64 false r3, .b64 false r4, .b64 false r5, .b64 false r6, .b64 false r7, .b64 false r8, .b64 false r9, .b64 false r10, .b64 false r11, .b64 false r12, .b64 false r13, .b64 false r14, .b64 false r15, .bool fz, .bool fs, .bool fc, .bool fo, .b64 false pc]), (false, [.b64 true 0#64])]) := by
  repeat' (first
    | (with_reducible apply Given.mk; intro h; (try simp only [hq, Bool.not_true, Bool.true_eq_false, Bool.false_eq_true] at h); (try exact absurd h (by decide +kernel)); (try exact no2 h (by with_reducible assumption)); (try exact no2 (by with_reducible assumption) h))
    | ((conv => whnf); first | with_reducible apply Both.mk | refine LoopP.times 11 ?_))
  all_goals first
    | (with_reducible apply Ob.mk; kernel_rfl)
    | (with_reducible apply Ob.mk; decide +kernel)
    | ((conv => whnf); exact ⟨rfl⟩)
    | ((conv => whnf); skip)
def sp_exsh : Sp
  | [.agg [.b64 true k, .b64 true al, .b64 true cc, .b64 true sz, .bool w, .bool sh, .b64 true d, .b64 true s, .b32 true dp, .b32 true rl, .b64 true im], .agg [.b64 false r0, .b64 false r1, .b64 false r2, .b64 false r3, .b64 false r4, .b64 false r5, .b64 false r6, .b64 false r7, .b64 false r8, .b64 false r9, .b64 false r10, .b64 false r11, .b64 false r12, .b64 false r13, .b64 false r14, .b64 false r15, .bool fz, .bool fs, .bool fc, .bool fo, .b64 false pc]] => match Nat.beq k.toNat 11 && Nat.beq d.toNat 0 && Nat.beq s.toNat 0 with
    | true => some (Cond.p (qld 11#64 al cc sz w sh 0#64 0#64 dp rl im = true), .tup [(true, [.b64 false (aluD 176#8 w 0#64 (aluD (sfV al) w r0 im)), .b64 false r1, .b64 false r2, .b64 false r3, .b64 false r4, .b64 false r5, .b64 false r6, .b64 false r7, .b64 false r8, .b64 false r9, .b64 false r10, .b64 false r11, .b64 false r12, .b64 false r13, .b64 false r14, .b64 false r15, .bool fz, .bool fs, .bool fc, .bool fo, .b64 false pc]), (false, [.b64 true 0#64])])
    | false => match Nat.beq k.toNat 12 && Nat.beq d.toNat 0 && Nat.beq s.toNat 0 with
      | true => some (Cond.p (qld 12#64 al cc sz w sh 0#64 0#64 dp rl im = true), .tup [(true, [.b64 false (aluD 176#8 w 0#64 (aluD (sfV al) w r0 r1)), .b64 false r1, .b64 false r2, .b64 false r3, .b64 false r4, .b64 false r5, .b64 false r6, .b64 false r7, .b64 false r8, .b64 false r9, .b64 false r10, .b64 false r11, .b64 false r12, .b64 false r13, .b64 false r14, .b64 false r15, .bool fz, .bool fs, .bool fc, .bool fo, .b64 false pc]), (false, [.b64 true 0#64])])
      | false => none
  | _ => none
theorem three {k d s : BitVec 64} {n : Nat} (hn : n < 18446744073709551616) (h : (Nat.beq k.toNat n && Nat.beq d.toNat 0 && Nat.beq s.toNat 0) = true) : k = BitVec.ofNat 64 n ∧ d = 0#64 ∧ s = 0#64 := by
  rw [Bool.and_eq_true, Bool.and_eq_true] at h
  obtain ⟨⟨h1, h2⟩, h3⟩ := h
  refine ⟨BitVec.eq_of_toNat_eq ?_, BitVec.eq_of_toNat_eq (Nat.eq_of_beq_eq_true h2), BitVec.eq_of_toNat_eq (Nat.eq_of_beq_eq_true h3)⟩
  rw [Nat.eq_of_beq_eq_true h1, BitVec.toNat_ofNat]
  exact (Nat.mod_eq_of_lt hn).symm
set_option maxRecDepth 100000 in
theorem e_exsh (m : Nat → Nat) : EntryOK Tryd.prog (GU m) 13 sp_exsh := by
  refine .of_F (C_uh m) (by kernel_rfl) Tryd.func13 (by kernel_rfl) (by kernel_rfl) (fun args c v h hc => ?_)
  unfold sp_exsh at h
  split at h
  · split at h
    · rename_i hk
      cases h
      obtain ⟨rfl, rfl, rfl⟩ := three (n := 11) (by decide) hk
      exact ⟨rfl, rfl, sx11 m _ _ _ _ _ _ _ _ _ _ _ _ _ _ _ _ _ _ _ _ _ _ _ _ _ _ _ _ _ hc⟩
    · split at h
      · rename_i hk
        cases h
        obtain ⟨rfl, rfl, rfl⟩ := three (n := 12) (by decide) hk
        exact ⟨rfl, rfl, sx12 m _ _ _ _ _ _ _ _ _ _ _ _ _ _ _ _ _ _ _ _ _ _ _ _ _ _ _ _ _ hc⟩
      · cases h
  · cases h
abbrev tb_exsh (m : Nat → Nat) : List (Nat × Sp) := (13, sp_exsh) :: tb_firewalllaw12_done m
theorem C_exsh (m : Nat → Nat) : CSound Tryd.prog (GU m) (tab (DU m) (tb_exsh m)) := (C_u m).cons (e_exsh m)
end Go.Proofs.YtppankimieopiaaDoor
