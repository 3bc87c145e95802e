/-
  Chapter 11: the bytes of an instruction, kind by kind. Conditions: none.
-/
import Derived.Test.YtppankimieopiaaDoorCn
namespace Go.Proofs.YtppankimieopiaaDoor
open Go.Ep Go.RowKit
set_option linter.unusedVariables false
set_option linter.unusedSimpArgs false
set_option maxRecDepth 100000 in
set_option maxHeartbeats 4000000 in
theorem enk_1 (D2 : VData) (m : Nat → Nat) (al cc sz : BitVec 64) (w sh : Bool) (d s : BitVec 64) (dp rl : BitVec 32) (im : BitVec 64) : F Tryd.prog (tabI Tryd.prog (DN m D2) (tb_opcode m) FSn 3) Tryd.f18 [.agg [.b64 true 1#64, .b64 true al, .b64 true cc, .b64 true sz, .bool w, .bool sh, .b64 true d, .b64 true s, .b32 true dp, .b32 true rl, .b64 true im]] (fun r => r = .tup [(false, [.str (if qld 1#64 al cc sz w sh d s dp rl im then en1 al cc sz w sh d s dp rl im else s0)]), (false, [.b64 true (if qld 1#64 al cc sz w sh d s dp rl im then 0#64 else 2#64)])]) := by
  repeat' (first
    | (with_reducible apply Given.mk; intro h; (try exact absurd h (by decide)))
    | ((conv => whnf); with_reducible apply Both.mk))
  all_goals first
    | (with_reducible apply Ob.mk; kernel_rfl)
    | (with_reducible apply Ob.mk; decide)
    | ((with_reducible apply Ob.mk); (refine lt_sz ?_ ?_) <;> (repeat' (first | ((with_reducible refine rx_le _ _ _ _ ?_); decide) | ((with_reducible refine mr_le _ _ _ ?_); decide) | ((with_reducible refine b4_le _ ?_); decide) | ((with_reducible refine b1_le _ ?_); decide) | ((with_reducible refine b8_le _ ?_); decide) | ((with_reducible refine opK1 _ _ _ _ _ _ _ _ _ _ ?_); decide) | (with_reducible refine cat10 ?_ ?_) | (with_reducible refine cat5 ?_ ?_) | (with_reducible refine cat20 ?_ ?_) | decide)); done)
    | ((with_reducible apply Ob.mk); exact ⟨by decide, by decide⟩)
    | ((conv => whnf); refine ⟨?_⟩; first | exact enc_no (by with_reducible assumption) | exact enc_ok (by with_reducible assumption) rfl | (subst_vars; exact enc_ok (by with_reducible assumption) rfl) | (refine enc_ok (by with_reducible assumption) ?_; simp only [en1, *, cond_true, cond_false]; first | done | rfl))
    | ((conv => whnf); skip)
set_option maxRecDepth 100000 in
set_option maxHeartbeats 4000000 in
theorem enk_2 (D2 : VData) (m : Nat → Nat) (al cc sz : BitVec 64) (w sh : Bool) (d s : BitVec 64) (dp rl : BitVec 32) (im : BitVec 64) : F Tryd.prog (tabI Tryd.prog (DN m D2) (tb_opcode m) FSn 3) Tryd.f18 [.agg [.b64 true 2#64, .b64 true al, .b64 true cc, .b64 true sz, .bool w, .bool sh, .b64 true d, .b64 true s, .b32 true dp, .b32 true rl, .b64 true im]] (fun r => r = .tup [(false, [.str (if qld 2#64 al cc sz w sh d s dp rl im then en2 al cc sz w sh d s dp rl im else s0)]), (false, [.b64 true (if qld 2#64 al cc sz w sh d s dp rl im then 0#64 else 2#64)])]) := by
  repeat' (first
    | (with_reducible apply Given.mk; intro h; (try exact absurd h (by decide)))
    | ((conv => whnf); with_reducible apply Both.mk))
  all_goals first
    | (with_reducible apply Ob.mk; kernel_rfl)
    | (with_reducible apply Ob.mk; decide)
    | ((with_reducible apply Ob.mk); (refine lt_sz ?_ ?_) <;> (repeat' (first | ((with_reducible refine rx_le _ _ _ _ ?_); decide) | ((with_reducible refine mr_le _ _ _ ?_); decide) | ((with_reducible refine b4_le _ ?_); decide) | ((with_reducible refine b1_le _ ?_); decide) | ((with_reducible refine b8_le _ ?_); decide) | ((with_reducible refine opK2 _ _ _ _ _ _ _ _ _ _ ?_); decide) | (with_reducible refine cat10 ?_ ?_) | (with_reducible refine cat5 ?_ ?_) | (with_reducible refine cat20 ?_ ?_) | decide)); done)
    | ((with_reducible apply Ob.mk); exact ⟨by decide, by decide⟩)
    | ((conv => whnf); refine ⟨?_⟩; first | exact enc_no (by with_reducible assumption) | exact enc_ok (by with_reducible assumption) rfl | (subst_vars; exact enc_ok (by with_reducible assumption) rfl) | (refine enc_ok (by with_reducible assumption) ?_; simp only [en2, *, cond_true, cond_false]; first | done | rfl))
    | ((conv => whnf); skip)
set_option maxRecDepth 100000 in
set_option maxHeartbeats 4000000 in
theorem enk_3 (D2 : VData) (m : Nat → Nat) (al cc sz : BitVec 64) (w sh : Bool) (d s : BitVec 64) (dp rl : BitVec 32) (im : BitVec 64) : F Tryd.prog (tabI Tryd.prog (DN m D2) (tb_opcode m) FSn 3) Tryd.f18 [.agg [.b64 true 3#64, .b64 true al, .b64 true cc, .b64 true sz, .bool w, .bool sh, .b64 true d, .b64 true s, .b32 true dp, .b32 true rl, .b64 true im]] (fun r => r = .tup [(false, [.str (if qld 3#64 al cc sz w sh d s dp rl im then en3 al cc sz w sh d s dp rl im else s0)]), (false, [.b64 true (if qld 3#64 al cc sz w sh d s dp rl im then 0#64 else 2#64)])]) := by
  repeat' (first
    | (with_reducible apply Given.mk; intro h; (try exact absurd h (by decide)))
    | ((conv => whnf); with_reducible apply Both.mk))
  all_goals first
    | (with_reducible apply Ob.mk; kernel_rfl)
    | (with_reducible apply Ob.mk; decide)
    | ((with_reducible apply Ob.mk); (refine lt_sz ?_ ?_) <;> (repeat' (first | ((with_reducible refine rx_le _ _ _ _ ?_); decide) | ((with_reducible refine mr_le _ _ _ ?_); decide) | ((with_reducible refine b4_le _ ?_); decide) | ((with_reducible refine b1_le _ ?_); decide) | ((with_reducible refine b8_le _ ?_); decide) | ((with_reducible refine opK3 _ _ _ _ _ _ _ _ _ _ ?_); decide) | (with_reducible refine cat10 ?_ ?_) | (with_reducible refine cat5 ?_ ?_) | (with_reducible refine cat20 ?_ ?_) | decide)); done)
    | ((with_reducible apply Ob.mk); exact ⟨by decide, by decide⟩)
    | ((conv => whnf); refine ⟨?_⟩; first | exact enc_no (by with_reducible assumption) | exact enc_ok (by with_reducible assumption) rfl | (subst_vars; exact enc_ok (by with_reducible assumption) rfl) | (refine enc_ok (by with_reducible assumption) ?_; simp only [en3, *, cond_true, cond_false]; first | done | rfl))
    | ((conv => whnf); skip)
set_option maxRecDepth 100000 in
set_option maxHeartbeats 4000000 in
theorem enk_4 (D2 : VData) (m : Nat → Nat) (al cc sz : BitVec 64) (w sh : Bool) (d s : BitVec 64) (dp rl : BitVec 32) (im : BitVec 64) : F Tryd.prog (tabI Tryd.prog (DN m D2) (tb_opcode m) FSn 3) Tryd.f18 [.agg [.b64 true 4#64, .b64 true al, .b64 true cc, .b64 true sz, .bool w, .bool sh, .b64 true d, .b64 true s, .b32 true dp, .b32 true rl, .b64 true im]] (fun r => r = .tup [(false, [.str (if qld 4#64 al cc sz w sh d s dp rl im then en4 al cc sz w sh d s dp rl im else s0)]), (false, [.b64 true (if qld 4#64 al cc sz w sh d s dp rl im then 0#64 else 2#64)])]) := by
  repeat' (first
    | (with_reducible apply Given.mk; intro h; (try exact absurd h (by decide)))
    | ((conv => whnf); with_reducible apply Both.mk))
  all_goals first
    | (with_reducible apply Ob.mk; kernel_rfl)
    | (with_reducible apply Ob.mk; decide)
    | ((with_reducible apply Ob.mk); (refine lt_sz ?_ ?_) <;> (repeat' (first | ((with_reducible refine rx_le _ _ _ _ ?_); decide) | ((with_reducible refine mr_le _ _ _ ?_); decide) | ((with_reducible refine b4_le _ ?_); decide) | ((with_reducible refine b1_le _ ?_); decide) | ((with_reducible refine b8_le _ ?_); decide) | ((with_reducible refine opK4 _ _ _ _ _ _ _ _ _ _ ?_); decide) | (with_reducible refine cat10 ?_ ?_) | (with_reducible refine cat5 ?_ ?_) | (with_reducible refine cat20 ?_ ?_) | decide)); done)
    | ((with_reducible apply Ob.mk); exact ⟨by decide, by decide⟩)
    | ((conv => whnf); refine ⟨?_⟩; first | exact enc_no (by with_reducible assumption) | exact enc_ok (by with_reducible assumption) rfl | (subst_vars; exact enc_ok (by with_reducible assumption) rfl) | (refine enc_ok (by with_reducible assumption) ?_; simp only [en4, *, cond_true, cond_false]; first | done | rfl))
    | ((conv => whnf); skip)
set_option maxRecDepth 100000 in
set_option maxHeartbeats 4000000 in
theorem enk_5 (D2 : VData) (m : Nat → Nat) (al cc sz : BitVec 64) (w sh : Bool) (d s : BitVec 64) (dp rl : BitVec 32) (im : BitVec 64) : F Tryd.prog (tabI Tryd.prog (DN m D2) (tb_opcode m) FSn 3) Tryd.f18 [.agg [.b64 true 5#64, .b64 true al, .b64 true cc, .b64 true sz, .bool w, .bool sh, .b64 true d, .b64 true s, .b32 true dp, .b32 true rl, .b64 true im]] (fun r => r = .tup [(false, [.str (if qld 5#64 al cc sz w sh d s dp rl im then en5 al cc sz w sh d s dp rl im else s0)]), (false, [.b64 true (if qld 5#64 al cc sz w sh d s dp rl im then 0#64 else 2#64)])]) := by
  repeat' (first
    | (with_reducible apply Given.mk; intro h; (try exact absurd h (by decide)))
    | ((conv => whnf); with_reducible apply Both.mk))
  all_goals first
    | (with_reducible apply Ob.mk; kernel_rfl)
    | (with_reducible apply Ob.mk; decide)
    | ((with_reducible apply Ob.mk); (refine lt_sz ?_ ?_) <;> (repeat' (first | ((with_reducible refine rx_le _ _ _ _ ?_); decide) | ((with_reducible refine mr_le _ _ _ ?_); decide) | ((with_reducible refine b4_le _ ?_); decide) | ((with_reducible refine b1_le _ ?_); decide) | ((with_reducible refine b8_le _ ?_); decide) | ((with_reducible refine opK5 _ _ _ _ _ _ _ _ _ _ ?_); decide) | (with_reducible refine cat10 ?_ ?_) | (with_reducible refine cat5 ?_ ?_) | (with_reducible refine cat20 ?_ ?_) | decide)); done)
    | ((with_reducible apply Ob.mk); exact ⟨by decide, by decide⟩)
    | ((conv => whnf); refine ⟨?_⟩; first | exact enc_no (by with_reducible assumption) | exact enc_ok (by with_reducible assumption) rfl | (subst_vars; exact enc_ok (by with_reducible assumption) rfl) | (refine enc_ok (by with_reducible assumption) ?_; simp only [en5, *, cond_true, cond_false]; first | done | rfl))
    | ((conv => whnf); skip)
set_option maxRecDepth 100000 in
set_option maxHeartbeats 4000000 in
theorem enk_6 (D2 : VData) (m : Nat → Nat) (al cc sz : BitVec 64) (w sh : Bool) (d s : BitVec 64) (dp rl : BitVec 32) (im : BitVec 64) : F Tryd.prog (tabI Tryd.prog (DN m D2) (tb_opcode m) FSn 3) Tryd.f18 [.agg [.b64 true 6#64, .b64 true al, .b64 true cc, .b64 true sz, .bool w, .bool sh, .b64 true d, .b64 true s, .b32 true dp, .b32 true rl, .b64 true im]] (fun r => r = .tup [(false, [.str (if qld 6#64 al cc sz w sh d s dp rl im then en6 al cc sz w sh d s dp rl im else s0)]), (false, [.b64 true (if qld 6#64 al cc sz w sh d s dp rl im then 0#64 else 2#64)])]) := by
  repeat' (first
    | (with_reducible apply Given.mk; intro h; (try exact absurd h (by decide)))
    | ((conv => whnf); with_reducible apply Both.mk))
  all_goals first
    | (with_reducible apply Ob.mk; kernel_rfl)
    | (with_reducible apply Ob.mk; decide)
    | ((with_reducible apply Ob.mk); (refine lt_sz ?_ ?_) <;> (repeat' (first | ((with_reducible refine rx_le _ _ _ _ ?_); decide) | ((with_reducible refine mr_le _ _ _ ?_); decide) | ((with_reducible refine b4_le _ ?_); decide) | ((with_reducible refine b1_le _ ?_); decide) | ((with_reducible refine b8_le _ ?_); decide) | ((with_reducible refine opK6 _ _ _ _ _ _ _ _ _ _ ?_); decide) | (with_reducible refine cat10 ?_ ?_) | (with_reducible refine cat5 ?_ ?_) | (with_reducible refine cat20 ?_ ?_) | decide)); done)
    | ((with_reducible apply Ob.mk); exact ⟨by decide, by decide⟩)
    | ((conv => whnf); refine ⟨?_⟩; first | exact enc_no (by with_reducible assumption) | exact enc_ok (by with_reducible assumption) rfl | (subst_vars; exact enc_ok (by with_reducible assumption) rfl) | (refine enc_ok (by with_reducible assumption) ?_; simp only [en6, *, cond_true, cond_false]; first | done | rfl))
    | ((conv => whnf); skip)
set_option maxRecDepth 100000 in
set_option maxHeartbeats 4000000 in
theorem enk_7 (D2 : VData) (m : Nat → Nat) (al cc sz : BitVec 64) (w sh : Bool) (d s : BitVec 64) (dp rl : BitVec 32) (im : BitVec 64) : F Tryd.prog (tabI Tryd.prog (DN m D2) (tb_opcode m) FSn 3) Tryd.f18 [.agg [.b64 true 7#64, .b64 true al, .b64 true cc, .b64 true sz, .bool w, .bool sh, .b64 true d, .b64 true s, .b32 true dp, .b32 true rl, .b64 true im]] (fun r => r = .tup [(false, [.str (if qld 7#64 al cc sz w sh d s dp rl im then en7 al cc sz w sh d s dp rl im else s0)]), (false, [.b64 true (if qld 7#64 al cc sz w sh d s dp rl im then 0#64 else 2#64)])]) := by
  repeat' (first
    | (with_reducible apply Given.mk; intro h; (try exact absurd h (by decide)))
    | ((conv => whnf); with_reducible apply Both.mk))
  all_goals first
    | (with_reducible apply Ob.mk; kernel_rfl)
    | (with_reducible apply Ob.mk; decide)
    | ((with_reducible apply Ob.mk); (refine lt_sz ?_ ?_) <;> (repeat' (first | ((with_reducible refine rx_le _ _ _ _ ?_); decide) | ((with_reducible refine mr_le _ _ _ ?_); decide) | ((with_reducible refine b4_le _ ?_); decide) | ((with_reducible refine b1_le _ ?_); decide) | ((with_reducible refine b8_le _ ?_); decide) | ((with_reducible refine opK7 _ _ _ _ _ _ _ _ _ _ ?_); decide) | (with_reducible refine cat10 ?_ ?_) | (with_reducible refine cat5 ?_ ?_) | (with_reducible refine cat20 ?_ ?_) | decide)); done)
    | ((with_reducible apply Ob.mk); exact ⟨by decide, by decide⟩)
    | ((conv => whnf); refine ⟨?_⟩; first | exact enc_no (by with_reducible assumption) | exact enc_ok (by with_reducible assumption) rfl | (subst_vars; exact enc_ok (by with_reducible assumption) rfl) | (refine enc_ok (by with_reducible assumption) ?_; simp only [en7, *, cond_true, cond_false]; first | done | rfl))
    | ((conv => whnf); skip)
set_option maxRecDepth 100000 in
set_option maxHeartbeats 4000000 in
theorem enk_8 (D2 : VData) (m : Nat → Nat) (al cc sz : BitVec 64) (w sh : Bool) (d s : BitVec 64) (dp rl : BitVec 32) (im : BitVec 64) : F Tryd.prog (tabI Tryd.prog (DN m D2) (tb_opcode m) FSn 3) Tryd.f18 [.agg [.b64 true 8#64, .b64 true al, .b64 true cc, .b64 true sz, .bool w, .bool sh, .b64 true d, .b64 true s, .b32 true dp, .b32 true rl, .b64 true im]] (fun r => r = .tup [(false, [.str (if qld 8#64 al cc sz w sh d s dp rl im then en8 al cc sz w sh d s dp rl im else s0)]), (false, [.b64 true (if qld 8#64 al cc sz w sh d s dp rl im then 0#64 else 2#64)])]) := by
  repeat' (first
    | (with_reducible apply Given.mk; intro h; (try exact absurd h (by decide)))
    | ((conv => whnf); with_reducible apply Both.mk))
  all_goals first
    | (with_reducible apply Ob.mk; kernel_rfl)
    | (with_reducible apply Ob.mk; decide)
    | ((with_reducible apply Ob.mk); (refine lt_sz ?_ ?_) <;> (repeat' (first | ((with_reducible refine rx_le _ _ _ _ ?_); decide) | ((with_reducible refine mr_le _ _ _ ?_); decide) | ((with_reducible refine b4_le _ ?_); decide) | ((with_reducible refine b1_le _ ?_); decide) | ((with_reducible refine b8_le _ ?_); decide) | ((with_reducible refine opK8 _ _ _ _ _ _ _ _ _ _ ?_); decide) | (with_reducible refine cat10 ?_ ?_) | (with_reducible refine cat5 ?_ ?_) | (with_reducible refine cat20 ?_ ?_) | decide)); done)
    | ((with_reducible apply Ob.mk); exact ⟨by decide, by decide⟩)
    | ((conv => whnf); refine ⟨?_⟩; first | exact enc_no (by with_reducible assumption) | exact enc_ok (by with_reducible assumption) rfl | (subst_vars; exact enc_ok (by with_reducible assumption) rfl) | (refine enc_ok (by with_reducible assumption) ?_; simp only [en8, *, cond_true, cond_false]; first | done | rfl))
    | ((conv => whnf); skip)
set_option maxRecDepth 100000 in
set_option maxHeartbeats 4000000 in
theorem enk_9 (D2 : VData) (m : Nat → Nat) (al cc sz : BitVec 64) (w sh : Bool) (d s : BitVec 64) (dp rl : BitVec 32) (im : BitVec 64) : F Tryd.prog (tabI Tryd.prog (DN m D2) (tb_opcode m) FSn 3) Tryd.f18 [.agg [.b64 true 9#64, .b64 true al, .b64 true cc, .b64 true sz, .bool w, .bool sh, .b64 true d, .b64 true s, .b32 true dp, .b32 true rl, .b64 true im]] (fun r => r = .tup [(false, [.str (if qld 9#64 al cc sz w sh d s dp rl im then en9 al cc sz w sh d s dp rl im else s0)]), (false, [.b64 true (if qld 9#64 al cc sz w sh d s dp rl im then 0#64 else 2#64)])]) := by
  repeat' (first
    | (with_reducible apply Given.mk; intro h; (try exact absurd h (by decide)))
    | ((conv => whnf); with_reducible apply Both.mk))
  all_goals first
    | (with_reducible apply Ob.mk; kernel_rfl)
    | (with_reducible apply Ob.mk; decide)
    | ((with_reducible apply Ob.mk); (refine lt_sz ?_ ?_) <;> (repeat' (first | ((with_reducible refine rx_le _ _ _ _ ?_); decide) | ((with_reducible refine mr_le _ _ _ ?_); decide) | ((with_reducible refine b4_le _ ?_); decide) | ((with_reducible refine b1_le _ ?_); decide) | ((with_reducible refine b8_le _ ?_); decide) | ((with_reducible refine opK9 _ _ _ _ _ _ _ _ _ _ ?_); decide) | (with_reducible refine cat10 ?_ ?_) | (with_reducible refine cat5 ?_ ?_) | (with_reducible refine cat20 ?_ ?_) | decide)); done)
    | ((with_reducible apply Ob.mk); exact ⟨by decide, by decide⟩)
    | ((conv => whnf); refine ⟨?_⟩; first | exact enc_no (by with_reducible assumption) | exact enc_ok (by with_reducible assumption) rfl | (subst_vars; exact enc_ok (by with_reducible assumption) rfl) | (refine enc_ok (by with_reducible assumption) ?_; simp only [en9, *, cond_true, cond_false]; first | done | rfl))
    | ((conv => whnf); skip)
set_option maxRecDepth 100000 in
set_option maxHeartbeats 4000000 in
theorem enk_10 (D2 : VData) (m : Nat → Nat) (al cc sz : BitVec 64) (w sh : Bool) (d s : BitVec 64) (dp rl : BitVec 32) (im : BitVec 64) : F Tryd.prog (tabI Tryd.prog (DN m D2) (tb_opcode m) FSn 3) Tryd.f18 [.agg [.b64 true 10#64, .b64 true al, .b64 true cc, .b64 true sz, .bool w, .bool sh, .b64 true d, .b64 true s, .b32 true dp, .b32 true rl, .b64 true im]] (fun r => r = .tup [(false, [.str (if qld 10#64 al cc sz w sh d s dp rl im then en10 al cc sz w sh d s dp rl im else s0)]), (false, [.b64 true (if qld 10#64 al cc sz w sh d s dp rl im then 0#64 else 2#64)])]) := by
  repeat' (first
    | (with_reducible apply Given.mk; intro h; (try exact absurd h (by decide)))
    | ((conv => whnf); with_reducible apply Both.mk))
  all_goals first
    | (with_reducible apply Ob.mk; kernel_rfl)
    | (with_reducible apply Ob.mk; decide)
    | ((with_reducible apply Ob.mk); (refine lt_sz ?_ ?_) <;> (repeat' (first | ((with_reducible refine rx_le _ _ _ _ ?_); decide) | ((with_reducible refine mr_le _ _ _ ?_); decide) | ((with_reducible refine b4_le _ ?_); decide) | ((with_reducible refine b1_le _ ?_); decide) | ((with_reducible refine b8_le _ ?_); decide) | ((with_reducible refine opK10 _ _ _ _ _ _ _ _ _ _ ?_); decide) | (with_reducible refine cat10 ?_ ?_) | (with_reducible refine cat5 ?_ ?_) | (with_reducible refine cat20 ?_ ?_) | decide)); done)
    | ((with_reducible apply Ob.mk); exact ⟨by decide, by decide⟩)
    | ((conv => whnf); refine ⟨?_⟩; first | exact enc_no (by with_reducible assumption) | exact enc_ok (by with_reducible assumption) rfl | (subst_vars; exact enc_ok (by with_reducible assumption) rfl) | (refine enc_ok (by with_reducible assumption) ?_; simp only [en10, *, cond_true, cond_false]; first | done | rfl))
    | ((conv => whnf); skip)
set_option maxRecDepth 100000 in
set_option maxHeartbeats 4000000 in
theorem enk_11 (D2 : VData) (m : Nat → Nat) (al cc sz : BitVec 64) (w sh : Bool) (d s : BitVec 64) (dp rl : BitVec 32) (im : BitVec 64) : F Tryd.prog (tabI Tryd.prog (DN m D2) (tb_opcode m) FSn 3) Tryd.f18 [.agg [.b64 true 11#64, .b64 true al, .b64 true cc, .b64 true sz, .bool w, .bool sh, .b64 true d, .b64 true s, .b32 true dp, .b32 true rl, .b64 true im]] (fun r => r = .tup [(false, [.str (if qld 11#64 al cc sz w sh d s dp rl im then en11 al cc sz w sh d s dp rl im else s0)]), (false, [.b64 true (if qld 11#64 al cc sz w sh d s dp rl im then 0#64 else 2#64)])]) := by
  repeat' (first
    | (with_reducible apply Given.mk; intro h; (try exact absurd h (by decide)))
    | ((conv => whnf); with_reducible apply Both.mk))
  all_goals first
    | (with_reducible apply Ob.mk; kernel_rfl)
    | (with_reducible apply Ob.mk; decide)
    | ((with_reducible apply Ob.mk); (refine lt_sz ?_ ?_) <;> (repeat' (first | ((with_reducible refine rx_le _ _ _ _ ?_); decide) | ((with_reducible refine mr_le _ _ _ ?_); decide) | ((with_reducible refine b4_le _ ?_); decide) | ((with_reducible refine b1_le _ ?_); decide) | ((with_reducible refine b8_le _ ?_); decide) | ((with_reducible refine opK11 _ _ _ _ _ _ _ _ _ _ ?_); decide) | (with_reducible refine cat10 ?_ ?_) | (with_reducible refine cat5 ?_ ?_) | (with_reducible refine cat20 ?_ ?_) | decide)); done)
    | ((with_reducible apply Ob.mk); exact ⟨by decide, by decide⟩)
    | ((conv => whnf); refine ⟨?_⟩; first | exact enc_no (by with_reducible assumption) | exact enc_ok (by with_reducible assumption) rfl | (subst_vars; exact enc_ok (by with_reducible assumption) rfl) | (refine enc_ok (by with_reducible assumption) ?_; simp only [en11, *, cond_true, cond_false]; first | done | rfl))
    | ((conv => whnf); skip)
set_option maxRecDepth 100000 in
set_option maxHeartbeats 4000000 in
theorem enk_12 (D2 : VData) (m : Nat → Nat) (al cc sz : BitVec 64) (w sh : Bool) (d s : BitVec 64) (dp rl : BitVec 32) (im : BitVec 64) : F Tryd.prog (tabI Tryd.prog (DN m D2) (tb_opcode m) FSn 3) Tryd.f18 [.agg [.b64 true 12#64, .b64 true al, .b64 true cc, .b64 true sz, .bool w, .bool sh, .b64 true d, .b64 true s, .b32 true dp, .b32 true rl, .b64 true im]] (fun r => r = .tup [(false, [.str (if qld 12#64 al cc sz w sh d s dp rl im then en12 al cc sz w sh d s dp rl im else s0)]), (false, [.b64 true (if qld 12#64 al cc sz w sh d s dp rl im then 0#64 else 2#64)])]) := by
  repeat' (first
    | (with_reducible apply Given.mk; intro h; (try exact absurd h (by decide)))
    | ((conv => whnf); with_reducible apply Both.mk))
  all_goals first
    | (with_reducible apply Ob.mk; kernel_rfl)
    | (with_reducible apply Ob.mk; decide)
    | ((with_reducible apply Ob.mk); (refine lt_sz ?_ ?_) <;> (repeat' (first | ((with_reducible refine rx_le _ _ _ _ ?_); decide) | ((with_reducible refine mr_le _ _ _ ?_); decide) | ((with_reducible refine b4_le _ ?_); decide) | ((with_reducible refine b1_le _ ?_); decide) | ((with_reducible refine b8_le _ ?_); decide) | ((with_reducible refine opK12 _ _ _ _ _ _ _ _ _ _ ?_); decide) | (with_reducible refine cat10 ?_ ?_) | (with_reducible refine cat5 ?_ ?_) | (with_reducible refine cat20 ?_ ?_) | decide)); done)
    | ((with_reducible apply Ob.mk); exact ⟨by decide, by decide⟩)
    | ((conv => whnf); refine ⟨?_⟩; first | exact enc_no (by with_reducible assumption) | exact enc_ok (by with_reducible assumption) rfl | (subst_vars; exact enc_ok (by with_reducible assumption) rfl) | (refine enc_ok (by with_reducible assumption) ?_; simp only [en12, *, cond_true, cond_false]; first | done | rfl))
    | ((conv => whnf); skip)
set_option maxRecDepth 100000 in
set_option maxHeartbeats 4000000 in
theorem enk_13 (D2 : VData) (m : Nat → Nat) (al cc sz : BitVec 64) (w sh : Bool) (d s : BitVec 64) (dp rl : BitVec 32) (im : BitVec 64) : F Tryd.prog (tabI Tryd.prog (DN m D2) (tb_opcode m) FSn 3) Tryd.f18 [.agg [.b64 true 13#64, .b64 true al, .b64 true cc, .b64 true sz, .bool w, .bool sh, .b64 true d, .b64 true s, .b32 true dp, .b32 true rl, .b64 true im]] (fun r => r = .tup [(false, [.str (if qld 13#64 al cc sz w sh d s dp rl im then en13 al cc sz w sh d s dp rl im else s0)]), (false, [.b64 true (if qld 13#64 al cc sz w sh d s dp rl im then 0#64 else 2#64)])]) := by
  repeat' (first
    | (with_reducible apply Given.mk; intro h; (try exact absurd h (by decide)))
    | ((conv => whnf); with_reducible apply Both.mk))
  all_goals first
    | (with_reducible apply Ob.mk; kernel_rfl)
    | (with_reducible apply Ob.mk; decide)
    | ((with_reducible apply Ob.mk); (refine lt_sz ?_ ?_) <;> (repeat' (first | ((with_reducible refine rx_le _ _ _ _ ?_); decide) | ((with_reducible refine mr_le _ _ _ ?_); decide) | ((with_reducible refine b4_le _ ?_); decide) | ((with_reducible refine b1_le _ ?_); decide) | ((with_reducible refine b8_le _ ?_); decide) | ((with_reducible refine opK13 _ _ _ _ _ _ _ _ _ _ ?_); decide) | (with_reducible refine cat10 ?_ ?_) | (with_reducible refine cat5 ?_ ?_) | (with_reducible refine cat20 ?_ ?_) | decide)); done)
    | ((with_reducible apply Ob.mk); exact ⟨by decide, by decide⟩)
    | ((conv => whnf); refine ⟨?_⟩; first | exact enc_no (by with_reducible assumption) | exact enc_ok (by with_reducible assumption) rfl | (subst_vars; exact enc_ok (by with_reducible assumption) rfl) | (refine enc_ok (by with_reducible assumption) ?_; simp only [en13, *, cond_true, cond_false]; first | done | rfl))
    | ((conv => whnf); skip)
set_option maxRecDepth 100000 in
set_option maxHeartbeats 4000000 in
theorem enk_14 (D2 : VData) (m : Nat → Nat) (al cc sz : BitVec 64) (w sh : Bool) (d s : BitVec 64) (dp rl : BitVec 32) (im : BitVec 64) : F Tryd.prog (tabI Tryd.prog (DN m D2) (tb_opcode m) FSn 3) Tryd.f18 [.agg [.b64 true 14#64, .b64 true al, .b64 true cc, .b64 true sz, .bool w, .bool sh, .b64 true d, .b64 true s, .b32 true dp, .b32 true rl, .b64 true im]] (fun r => r = .tup [(false, [.str (if qld 14#64 al cc sz w sh d s dp rl im then en14 al cc sz w sh d s dp rl im else s0)]), (false, [.b64 true (if qld 14#64 al cc sz w sh d s dp rl im then 0#64 else 2#64)])]) := by
  repeat' (first
    | (with_reducible apply Given.mk; intro h; (try exact absurd h (by decide)))
    | ((conv => whnf); with_reducible apply Both.mk))
  all_goals first
    | (with_reducible apply Ob.mk; kernel_rfl)
    | (with_reducible apply Ob.mk; decide)
    | ((with_reducible apply Ob.mk); (refine lt_sz ?_ ?_) <;> (repeat' (first | ((with_reducible refine rx_le _ _ _ _ ?_); decide) | ((with_reducible refine mr_le _ _ _ ?_); decide) | ((with_reducible refine b4_le _ ?_); decide) | ((with_reducible refine b1_le _ ?_); decide) | ((with_reducible refine b8_le _ ?_); decide) | ((with_reducible refine opK14 _ _ _ _ _ _ _ _ _ _ ?_); decide) | (with_reducible refine cat10 ?_ ?_) | (with_reducible refine cat5 ?_ ?_) | (with_reducible refine cat20 ?_ ?_) | decide)); done)
    | ((with_reducible apply Ob.mk); exact ⟨by decide, by decide⟩)
    | ((conv => whnf); refine ⟨?_⟩; first | exact enc_no (by with_reducible assumption) | exact enc_ok (by with_reducible assumption) rfl | (subst_vars; exact enc_ok (by with_reducible assumption) rfl) | (refine enc_ok (by with_reducible assumption) ?_; simp only [en14, *, cond_true, cond_false]; first | done | rfl))
    | ((conv => whnf); skip)
set_option maxRecDepth 100000 in
set_option maxHeartbeats 4000000 in
theorem enk_15 (D2 : VData) (m : Nat → Nat) (al cc sz : BitVec 64) (w sh : Bool) (d s : BitVec 64) (dp rl : BitVec 32) (im : BitVec 64) : F Tryd.prog (tabI Tryd.prog (DN m D2) (tb_opcode m) FSn 3) Tryd.f18 [.agg [.b64 true 15#64, .b64 true al, .b64 true cc, .b64 true sz, .bool w, .bool sh, .b64 true d, .b64 true s, .b32 true dp, .b32 true rl, .b64 true im]] (fun r => r = .tup [(false, [.str (if qld 15#64 al cc sz w sh d s dp rl im then en15 al cc sz w sh d s dp rl im else s0)]), (false, [.b64 true (if qld 15#64 al cc sz w sh d s dp rl im then 0#64 else 2#64)])]) := by
  repeat' (first
    | (with_reducible apply Given.mk; intro h; (try exact absurd h (by decide)))
    | ((conv => whnf); with_reducible apply Both.mk))
  all_goals first
    | (with_reducible apply Ob.mk; kernel_rfl)
    | (with_reducible apply Ob.mk; decide)
    | ((with_reducible apply Ob.mk); (refine lt_sz ?_ ?_) <;> (repeat' (first | ((with_reducible refine rx_le _ _ _ _ ?_); decide) | ((with_reducible refine mr_le _ _ _ ?_); decide) | ((with_reducible refine b4_le _ ?_); decide) | ((with_reducible refine b1_le _ ?_); decide) | ((with_reducible refine b8_le _ ?_); decide) | ((with_reducible refine opK15 _ _ _ _ _ _ _ _ _ _ ?_); decide) | (with_reducible refine cat10 ?_ ?_) | (with_reducible refine cat5 ?_ ?_) | (with_reducible refine cat20 ?_ ?_) | decide)); done)
    | ((with_reducible apply Ob.mk); exact ⟨by decide, by decide⟩)
    | ((conv => whnf); refine ⟨?_⟩; first | exact enc_no (by with_reducible assumption) | exact enc_ok (by with_reducible assumption) rfl | (subst_vars; exact enc_ok (by with_reducible assumption) rfl) | (refine enc_ok (by with_reducible assumption) ?_; simp only [en15, *, cond_true, cond_false]; first | done | rfl))
    | ((conv => whnf); skip)
set_option maxRecDepth 100000 in
set_option maxHeartbeats 4000000 in
theorem enk_16 (D2 : VData) (m : Nat → Nat) (al cc sz : BitVec 64) (w sh : Bool) (d s : BitVec 64) (dp rl : BitVec 32) (im : BitVec 64) : F Tryd.prog (tabI Tryd.prog (DN m D2) (tb_opcode m) FSn 3) Tryd.f18 [.agg [.b64 true 16#64, .b64 true al, .b64 true cc, .b64 true sz, .bool w, .bool sh, .b64 true d, .b64 true s, .b32 true dp, .b32 true rl, .b64 true im]] (fun r => r = .tup [(false, [.str (if qld 16#64 al cc sz w sh d s dp rl im then en16 al cc sz w sh d s dp rl im else s0)]), (false, [.b64 true (if qld 16#64 al cc sz w sh d s dp rl im then 0#64 else 2#64)])]) := by
  repeat' (first
    | (with_reducible apply Given.mk; intro h; (try exact absurd h (by decide)))
    | ((conv => whnf); with_reducible apply Both.mk))
  all_goals first
    | (with_reducible apply Ob.mk; kernel_rfl)
    | (with_reducible apply Ob.mk; decide)
    | ((with_reducible apply Ob.mk); (refine lt_sz ?_ ?_) <;> (repeat' (first | ((with_reducible refine rx_le _ _ _ _ ?_); decide) | ((with_reducible refine mr_le _ _ _ ?_); decide) | ((with_reducible refine b4_le _ ?_); decide) | ((with_reducible refine b1_le _ ?_); decide) | ((with_reducible refine b8_le _ ?_); decide) | ((with_reducible refine opK16 _ _ _ _ _ _ _ _ _ _ ?_); decide) | (with_reducible refine cat10 ?_ ?_) | (with_reducible refine cat5 ?_ ?_) | (with_reducible refine cat20 ?_ ?_) | decide)); done)
    | ((with_reducible apply Ob.mk); exact ⟨by decide, by decide⟩)
    | ((conv => whnf); refine ⟨?_⟩; first | exact enc_no (by with_reducible assumption) | exact enc_ok (by with_reducible assumption) rfl | (subst_vars; exact enc_ok (by with_reducible assumption) rfl) | (refine enc_ok (by with_reducible assumption) ?_; simp only [en16, *, cond_true, cond_false]; first | done | rfl))
    | ((conv => whnf); skip)
set_option maxRecDepth 100000 in
set_option maxHeartbeats 4000000 in
theorem enk_17 (D2 : VData) (m : Nat → Nat) (al cc sz : BitVec 64) (w sh : Bool) (d s : BitVec 64) (dp rl : BitVec 32) (im : BitVec 64) : F Tryd.prog (tabI Tryd.prog (DN m D2) (tb_opcode m) FSn 3) Tryd.f18 [.agg [.b64 true 17#64, .b64 true al, .b64 true cc, .b64 true sz, .bool w, .bool sh, .b64 true d, .b64 true s, .b32 true dp, .b32 true rl, .b64 true im]] (fun r => r = .tup [(false, [.str (if qld 17#64 al cc sz w sh d s dp rl im then en17 al cc sz w sh d s dp rl im else s0)]), (false, [.b64 true (if qld 17#64 al cc sz w sh d s dp rl im then 0#64 else 2#64)])]) := by
  repeat' (first
    | (with_reducible apply Given.mk; intro h; (try exact absurd h (by decide)))
    | ((conv => whnf); with_reducible apply Both.mk))
  all_goals first
    | (with_reducible apply Ob.mk; kernel_rfl)
    | (with_reducible apply Ob.mk; decide)
    | ((with_reducible apply Ob.mk); (refine lt_sz ?_ ?_) <;> (repeat' (first | ((with_reducible refine rx_le _ _ _ _ ?_); decide) | ((with_reducible refine mr_le _ _ _ ?_); decide) | ((with_reducible refine b4_le _ ?_); decide) | ((with_reducible refine b1_le _ ?_); decide) | ((with_reducible refine b8_le _ ?_); decide) | ((with_reducible refine opK17 _ _ _ _ _ _ _ _ _ _ ?_); decide) | (with_reducible refine cat10 ?_ ?_) | (with_reducible refine cat5 ?_ ?_) | (with_reducible refine cat20 ?_ ?_) | decide)); done)
    | ((with_reducible apply Ob.mk); exact ⟨by decide, by decide⟩)
    | ((conv => whnf); refine ⟨?_⟩; first | exact enc_no (by with_reducible assumption) | exact enc_ok (by with_reducible assumption) rfl | (subst_vars; exact enc_ok (by with_reducible assumption) rfl) | (refine enc_ok (by with_reducible assumption) ?_; simp only [en17, *, cond_true, cond_false]; first | done | rfl))
    | ((conv => whnf); skip)
set_option maxRecDepth 100000 in
set_option maxHeartbeats 4000000 in
theorem enk_18 (D2 : VData) (m : Nat → Nat) (al cc sz : BitVec 64) (w sh : Bool) (d s : BitVec 64) (dp rl : BitVec 32) (im : BitVec 64) : F Tryd.prog (tabI Tryd.prog (DN m D2) (tb_opcode m) FSn 3) Tryd.f18 [.agg [.b64 true 18#64, .b64 true al, .b64 true cc, .b64 true sz, .bool w, .bool sh, .b64 true d, .b64 true s, .b32 true dp, .b32 true rl, .b64 true im]] (fun r => r = .tup [(false, [.str (if qld 18#64 al cc sz w sh d s dp rl im then en18 al cc sz w sh d s dp rl im else s0)]), (false, [.b64 true (if qld 18#64 al cc sz w sh d s dp rl im then 0#64 else 2#64)])]) := by
  repeat' (first
    | (with_reducible apply Given.mk; intro h; (try exact absurd h (by decide)))
    | ((conv => whnf); with_reducible apply Both.mk))
  all_goals first
    | (with_reducible apply Ob.mk; kernel_rfl)
    | (with_reducible apply Ob.mk; decide)
    | ((with_reducible apply Ob.mk); (refine lt_sz ?_ ?_) <;> (repeat' (first | ((with_reducible refine rx_le _ _ _ _ ?_); decide) | ((with_reducible refine mr_le _ _ _ ?_); decide) | ((with_reducible refine b4_le _ ?_); decide) | ((with_reducible refine b1_le _ ?_); decide) | ((with_reducible refine b8_le _ ?_); decide) | ((with_reducible refine opK18 _ _ _ _ _ _ _ _ _ _ ?_); decide) | (with_reducible refine cat10 ?_ ?_) | (with_reducible refine cat5 ?_ ?_) | (with_reducible refine cat20 ?_ ?_) | decide)); done)
    | ((with_reducible apply Ob.mk); exact ⟨by decide, by decide⟩)
    | ((conv => whnf); refine ⟨?_⟩; first | exact enc_no (by with_reducible assumption) | exact enc_ok (by with_reducible assumption) rfl | (subst_vars; exact enc_ok (by with_reducible assumption) rfl) | (refine enc_ok (by with_reducible assumption) ?_; simp only [en18, *, cond_true, cond_false]; first | done | rfl))
    | ((conv => whnf); skip)
set_option maxRecDepth 100000 in
set_option maxHeartbeats 4000000 in
theorem enk_19 (D2 : VData) (m : Nat → Nat) (al cc sz : BitVec 64) (w sh : Bool) (d s : BitVec 64) (dp rl : BitVec 32) (im : BitVec 64) : F Tryd.prog (tabI Tryd.prog (DN m D2) (tb_opcode m) FSn 3) Tryd.f18 [.agg [.b64 true 19#64, .b64 true al, .b64 true cc, .b64 true sz, .bool w, .bool sh, .b64 true d, .b64 true s, .b32 true dp, .b32 true rl, .b64 true im]] (fun r => r = .tup [(false, [.str (if qld 19#64 al cc sz w sh d s dp rl im then en19 al cc sz w sh d s dp rl im else s0)]), (false, [.b64 true (if qld 19#64 al cc sz w sh d s dp rl im then 0#64 else 2#64)])]) := by
  repeat' (first
    | (with_reducible apply Given.mk; intro h; (try exact absurd h (by decide)))
    | ((conv => whnf); with_reducible apply Both.mk))
  all_goals first
    | (with_reducible apply Ob.mk; kernel_rfl)
    | (with_reducible apply Ob.mk; decide)
    | ((with_reducible apply Ob.mk); (refine lt_sz ?_ ?_) <;> (repeat' (first | ((with_reducible refine rx_le _ _ _ _ ?_); decide) | ((with_reducible refine mr_le _ _ _ ?_); decide) | ((with_reducible refine b4_le _ ?_); decide) | ((with_reducible refine b1_le _ ?_); decide) | ((with_reducible refine b8_le _ ?_); decide) | ((with_reducible refine opK19 _ _ _ _ _ _ _ _ _ _ ?_); decide) | (with_reducible refine cat10 ?_ ?_) | (with_reducible refine cat5 ?_ ?_) | (with_reducible refine cat20 ?_ ?_) | decide)); done)
    | ((with_reducible apply Ob.mk); exact ⟨by decide, by decide⟩)
    | ((conv => whnf); refine ⟨?_⟩; first | exact enc_no (by with_reducible assumption) | exact enc_ok (by with_reducible assumption) rfl | (subst_vars; exact enc_ok (by with_reducible assumption) rfl) | (refine enc_ok (by with_reducible assumption) ?_; simp only [en19, *, cond_true, cond_false]; first | done | rfl))
    | ((conv => whnf); skip)
set_option maxRecDepth 100000 in
set_option maxHeartbeats 4000000 in
theorem enk_20 (D2 : VData) (m : Nat → Nat) (al cc sz : BitVec 64) (w sh : Bool) (d s : BitVec 64) (dp rl : BitVec 32) (im : BitVec 64) : F Tryd.prog (tabI Tryd.prog (DN m D2) (tb_opcode m) FSn 3) Tryd.f18 [.agg [.b64 true 20#64, .b64 true al, .b64 true cc, .b64 true sz, .bool w, .bool sh, .b64 true d, .b64 true s, .b32 true dp, .b32 true rl, .b64 true im]] (fun r => r = .tup [(false, [.str (if qld 20#64 al cc sz w sh d s dp rl im then en20 al cc sz w sh d s dp rl im else s0)]), (false, [.b64 true (if qld 20#64 al cc sz w sh d s dp rl im then 0#64 else 2#64)])]) := by
  repeat' (first
    | (with_reducible apply Given.mk; intro h; (try exact absurd h (by decide)))
    | ((conv => whnf); with_reducible apply Both.mk))
  all_goals first
    | (with_reducible apply Ob.mk; kernel_rfl)
    | (with_reducible apply Ob.mk; decide)
    | ((with_reducible apply Ob.mk); (refine lt_sz ?_ ?_) <;> (repeat' (first | ((with_reducible refine rx_le _ _ _ _ ?_); decide) | ((with_reducible refine mr_le _ _ _ ?_); decide) | ((with_reducible refine b4_le _ ?_); decide) | ((with_reducible refine b1_le _ ?_); decide) | ((with_reducible refine b8_le _ ?_); decide) | ((with_reducible refine opK20 _ _ _ _ _ _ _ _ _ _ ?_); decide) | (with_reducible refine cat10 ?_ ?_) | (with_reducible refine cat5 ?_ ?_) | (with_reducible refine cat20 ?_ ?_) | decide)); done)
    | ((with_reducible apply Ob.mk); exact ⟨by decide, by decide⟩)
    | ((conv => whnf); refine ⟨?_⟩; first | exact enc_no (by with_reducible assumption) | exact enc_ok (by with_reducible assumption) rfl | (subst_vars; exact enc_ok (by with_reducible assumption) rfl) | (refine enc_ok (by with_reducible assumption) ?_; simp only [en20, *, cond_true, cond_false]; first | done | rfl))
    | ((conv => whnf); skip)
set_option maxRecDepth 100000 in
set_option maxHeartbeats 4000000 in
theorem enk_21 (D2 : VData) (m : Nat → Nat) (al cc sz : BitVec 64) (w sh : Bool) (d s : BitVec 64) (dp rl : BitVec 32) (im : BitVec 64) : F Tryd.prog (tabI Tryd.prog (DN m D2) (tb_opcode m) FSn 3) Tryd.f18 [.agg [.b64 true 21#64, .b64 true al, .b64 true cc, .b64 true sz, .bool w, .bool sh, .b64 true d, .b64 true s, .b32 true dp, .b32 true rl, .b64 true im]] (fun r => r = .tup [(false, [.str (if qld 21#64 al cc sz w sh d s dp rl im then en21 al cc sz w sh d s dp rl im else s0)]), (false, [.b64 true (if qld 21#64 al cc sz w sh d s dp rl im then 0#64 else 2#64)])]) := by
  repeat' (first
    | (with_reducible apply Given.mk; intro h; (try exact absurd h (by decide)))
    | ((conv => whnf); with_reducible apply Both.mk))
  all_goals first
    | (with_reducible apply Ob.mk; kernel_rfl)
    | (with_reducible apply Ob.mk; decide)
    | ((with_reducible apply Ob.mk); (refine lt_sz ?_ ?_) <;> (repeat' (first | ((with_reducible refine rx_le _ _ _ _ ?_); decide) | ((with_reducible refine mr_le _ _ _ ?_); decide) | ((with_reducible refine b4_le _ ?_); decide) | ((with_reducible refine b1_le _ ?_); decide) | ((with_reducible refine b8_le _ ?_); decide) | ((with_reducible refine opK21 _ _ _ _ _ _ _ _ _ _ ?_); decide) | (with_reducible refine cat10 ?_ ?_) | (with_reducible refine cat5 ?_ ?_) | (with_reducible refine cat20 ?_ ?_) | decide)); done)
    | ((with_reducible apply Ob.mk); exact ⟨by decide, by decide⟩)
    | ((conv => whnf); refine ⟨?_⟩; first | exact enc_no (by with_reducible assumption) | exact enc_ok (by with_reducible assumption) rfl | (subst_vars; exact enc_ok (by with_reducible assumption) rfl) | (refine enc_ok (by with_reducible assumption) ?_; simp only [en21, *, cond_true, cond_false]; first | done | rfl))
    | ((conv => whnf); skip)
def sp_Encode : Sp
  | [.agg [.b64 true k, .b64 true al, .b64 true cc, .b64 true sz, .bool w, .bool sh, .b64 true d, .b64 true s, .b32 true dp, .b32 true rl, .b64 true im]] => some (Cond.t, .tup [(false, [.str (if qld k al cc sz w sh d s dp rl im then encB k al cc sz w sh d s dp rl im else s0)]), (false, [.b64 true (if qld k al cc sz w sh d s dp rl im then 0#64 else 2#64)])])
  | _ => none
set_option maxRecDepth 100000 in
set_option maxHeartbeats 16000000 in
theorem e_Encode (G2 : World → Prop) (D2 : VData) (k2 : DataOK Tryd.prog G2 D2) (m : Nat → Nat) : EntryOK Tryd.prog (GN m G2) 18 sp_Encode := by
  refine .of_F (CSound.tabI (C_opcode G2 D2 k2 m) (by kernel_rfl) fs_n 3) (by kernel_rfl) Tryd.func18 (by kernel_rfl) (by kernel_rfl) (fun args c v h hc => ?_)
  unfold sp_Encode at h
  split at h
  · rename_i k al cc sz w sh d s dp rl im; cases h
    refine ⟨rfl, rfl, ?_⟩
    rcases ks k with rfl | rfl | rfl | rfl | rfl | rfl | rfl | rfl | rfl | rfl | rfl | rfl | rfl | rfl | rfl | rfl | rfl | rfl | rfl | rfl | rfl | hk
    rotate_right 1
    · rw [show qld k al cc sz w sh d s dp rl im = false from qld_none hk]
      rcases hk with hk | hk
      all_goals
        repeat' (first
          | (with_reducible apply Given.mk; intro h; (try first | simp only [qld_none (.inl hk), Bool.not_false, Bool.true_eq_false, Bool.false_eq_true] at h | simp only [qld_none (.inr hk), Bool.not_false, Bool.true_eq_false, Bool.false_eq_true] at h); (try exact absurd h (by decide)))
          | ((conv => whnf); with_reducible apply Both.mk))
        all_goals first
          | (with_reducible apply Ob.mk; kernel_rfl)
          | ((conv => whnf); exact ⟨rfl⟩)
          | ((conv => whnf); skip)
    · exact enk_1 D2 m al cc sz w sh d s dp rl im
    · exact enk_2 D2 m al cc sz w sh d s dp rl im
    · exact enk_3 D2 m al cc sz w sh d s dp rl im
    · exact enk_4 D2 m al cc sz w sh d s dp rl im
    · exact enk_5 D2 m al cc sz w sh d s dp rl im
    · exact enk_6 D2 m al cc sz w sh d s dp rl im
    · exact enk_7 D2 m al cc sz w sh d s dp rl im
    · exact enk_8 D2 m al cc sz w sh d s dp rl im
    · exact enk_9 D2 m al cc sz w sh d s dp rl im
    · exact enk_10 D2 m al cc sz w sh d s dp rl im
    · exact enk_11 D2 m al cc sz w sh d s dp rl im
    · exact enk_12 D2 m al cc sz w sh d s dp rl im
    · exact enk_13 D2 m al cc sz w sh d s dp rl im
    · exact enk_14 D2 m al cc sz w sh d s dp rl im
    · exact enk_15 D2 m al cc sz w sh d s dp rl im
    · exact enk_16 D2 m al cc sz w sh d s dp rl im
    · exact enk_17 D2 m al cc sz w sh d s dp rl im
    · exact enk_18 D2 m al cc sz w sh d s dp rl im
    · exact enk_19 D2 m al cc sz w sh d s dp rl im
    · exact enk_20 D2 m al cc sz w sh d s dp rl im
    · exact enk_21 D2 m al cc sz w sh d s dp rl im
  · cases h
abbrev tb_Encode (m : Nat → Nat) : List (Nat × Sp) := (18, sp_Encode) :: tb_opcode m
theorem C_Encode (G2 : World → Prop) (D2 : VData) (k2 : DataOK Tryd.prog G2 D2) (m : Nat → Nat) : CSound Tryd.prog (GN m G2) (tab (DN m D2) (tb_Encode m)) := (C_opcode G2 D2 k2 m).cons (e_Encode G2 D2 k2 m)
end Go.Proofs.YtppankimieopiaaDoor
