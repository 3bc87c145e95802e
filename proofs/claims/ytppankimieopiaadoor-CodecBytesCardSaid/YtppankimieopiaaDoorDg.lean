/-
  Chapter 11: what Decode guesses of bytes: the program's walk, kind by kind. Conditions: as typed.
-/
import Derived.Test.YtppankimieopiaaDoorDd
namespace Go.Proofs.YtppankimieopiaaDoor
open Go.Ep Go.RowKit
set_option linter.unusedVariables false
set_option linter.unusedSimpArgs false
set_option maxRecDepth 100000 in
set_option maxHeartbeats 4000000 in
theorem gs_1 (D2 : VData) (m : Nat → Nat) (t : ByteArray) (ht : t.size < 9223372036854775808) : F Tryd.prog (withW (tab (DN m D2) (tb_size m)) ws_r) Tryd.f63 [.one (.str t), .one (.b64 true 1#64)] (fun r => r = .agg (LX (g1 t))) := by
  rcases hd3 t with ⟨a1, a2, e1, e2⟩ | ⟨a1, a2, e1, e2⟩ | ⟨a1, a2, e1, e2⟩
  all_goals
    repeat' (first
      | (with_reducible apply Given.mk; intro h; (try simp only [a1, a2, Bool.not_true, Bool.not_false, BitVec.reduceBEq, BitVec.reduceSLT, eq_self, Bool.true_eq_false, Bool.false_eq_true] at h); (try exact absurd h (by decide)))
      | ((conv => whnf); with_reducible apply Both.mk))
    all_goals first
      | (with_reducible apply Ob.mk; kernel_rfl)
      | ((with_reducible apply Ob.mk); with_reducible exact ne_pos a1)
      | ((with_reducible apply Ob.mk); with_reducible exact ht)
      | ((with_reducible apply Ob.mk); refine ⟨rfl, rfl, rfl, ?_, ?_⟩ <;> (repeat' (first | (with_reducible exact ht) | (with_reducible exact take1) | (with_reducible exact take4) | (with_reducible exact take8) | (with_reducible refine cut_lt ?_) | (with_reducible refine drop_lt ?_) | decide)); done)
      | (with_reducible apply Ob.mk; decide)
      | ((conv => whnf); refine ⟨?_⟩; simp only [g1, LX, if_true, if_false, Bool.false_eq_true, Bool.not_true, Bool.not_false, hDp, hS6, hMid, hEnd, hE0, hW, hS5, hM, hS4, hOp, hS3, hTw, e1, e2]; done)
      | ((conv => whnf); skip)
set_option maxRecDepth 100000 in
set_option maxHeartbeats 4000000 in
theorem gs_2 (D2 : VData) (m : Nat → Nat) (t : ByteArray) (ht : t.size < 9223372036854775808) : F Tryd.prog (withW (tab (DN m D2) (tb_size m)) ws_r) Tryd.f63 [.one (.str t), .one (.b64 true 2#64)] (fun r => r = .agg (LX (g2 t))) := by
  rcases hd3 t with ⟨a1, a2, e1, e2⟩ | ⟨a1, a2, e1, e2⟩ | ⟨a1, a2, e1, e2⟩
  all_goals
    repeat' (first
      | (with_reducible apply Given.mk; intro h; (try simp only [a1, a2, Bool.not_true, Bool.not_false, BitVec.reduceBEq, BitVec.reduceSLT, eq_self, Bool.true_eq_false, Bool.false_eq_true] at h); (try exact absurd h (by decide)))
      | ((conv => whnf); with_reducible apply Both.mk))
    all_goals first
      | (with_reducible apply Ob.mk; kernel_rfl)
      | ((with_reducible apply Ob.mk); with_reducible exact ne_pos a1)
      | ((with_reducible apply Ob.mk); with_reducible exact ht)
      | ((with_reducible apply Ob.mk); refine ⟨rfl, rfl, rfl, ?_, ?_⟩ <;> (repeat' (first | (with_reducible exact ht) | (with_reducible exact take1) | (with_reducible exact take4) | (with_reducible exact take8) | (with_reducible refine cut_lt ?_) | (with_reducible refine drop_lt ?_) | decide)); done)
      | (with_reducible apply Ob.mk; decide)
      | ((conv => whnf); refine ⟨?_⟩; simp only [g2, LX, if_true, if_false, Bool.false_eq_true, Bool.not_true, Bool.not_false, hDp, hS6, hMid, hEnd, hE0, hW, hS5, hM, hS4, hOp, hS3, hTw, e1, e2]; done)
      | ((conv => whnf); skip)
set_option maxRecDepth 100000 in
set_option maxHeartbeats 4000000 in
theorem gs_3 (D2 : VData) (m : Nat → Nat) (t : ByteArray) (ht : t.size < 9223372036854775808) : F Tryd.prog (withW (tab (DN m D2) (tb_size m)) ws_r) Tryd.f63 [.one (.str t), .one (.b64 true 3#64)] (fun r => r = .agg (LX (g3 t))) := by
  rcases hd3 t with ⟨a1, a2, e1, e2⟩ | ⟨a1, a2, e1, e2⟩ | ⟨a1, a2, e1, e2⟩
  all_goals
    repeat' (first
      | (with_reducible apply Given.mk; intro h; (try simp only [a1, a2, Bool.not_true, Bool.not_false, BitVec.reduceBEq, BitVec.reduceSLT, eq_self, Bool.true_eq_false, Bool.false_eq_true] at h); (try exact absurd h (by decide)))
      | ((conv => whnf); with_reducible apply Both.mk))
    all_goals first
      | (with_reducible apply Ob.mk; kernel_rfl)
      | ((with_reducible apply Ob.mk); with_reducible exact ne_pos a1)
      | ((with_reducible apply Ob.mk); with_reducible exact ht)
      | ((with_reducible apply Ob.mk); refine ⟨rfl, rfl, rfl, ?_, ?_⟩ <;> (repeat' (first | (with_reducible exact ht) | (with_reducible exact take1) | (with_reducible exact take4) | (with_reducible exact take8) | (with_reducible refine cut_lt ?_) | (with_reducible refine drop_lt ?_) | decide)); done)
      | (with_reducible apply Ob.mk; decide)
      | ((conv => whnf); refine ⟨?_⟩; simp only [g3, LX, if_true, if_false, Bool.false_eq_true, Bool.not_true, Bool.not_false, hDp, hS6, hMid, hEnd, hE0, hW, hS5, hM, hS4, hOp, hS3, hTw, e1, e2]; done)
      | ((conv => whnf); skip)
set_option maxRecDepth 100000 in
set_option maxHeartbeats 4000000 in
theorem gs_4 (D2 : VData) (m : Nat → Nat) (t : ByteArray) (ht : t.size < 9223372036854775808) : F Tryd.prog (withW (tab (DN m D2) (tb_size m)) ws_r) Tryd.f63 [.one (.str t), .one (.b64 true 4#64)] (fun r => r = .agg (LX (g4 t))) := by
  rcases hd3 t with ⟨a1, a2, e1, e2⟩ | ⟨a1, a2, e1, e2⟩ | ⟨a1, a2, e1, e2⟩
  all_goals
    repeat' (first
      | (with_reducible apply Given.mk; intro h; (try simp only [a1, a2, Bool.not_true, Bool.not_false, BitVec.reduceBEq, BitVec.reduceSLT, eq_self, Bool.true_eq_false, Bool.false_eq_true] at h); (try exact absurd h (by decide)))
      | ((conv => whnf); with_reducible apply Both.mk))
    all_goals first
      | (with_reducible apply Ob.mk; kernel_rfl)
      | ((with_reducible apply Ob.mk); with_reducible exact ne_pos a1)
      | ((with_reducible apply Ob.mk); with_reducible exact ht)
      | ((with_reducible apply Ob.mk); refine ⟨rfl, rfl, rfl, ?_, ?_⟩ <;> (repeat' (first | (with_reducible exact ht) | (with_reducible exact take1) | (with_reducible exact take4) | (with_reducible exact take8) | (with_reducible refine cut_lt ?_) | (with_reducible refine drop_lt ?_) | decide)); done)
      | (with_reducible apply Ob.mk; decide)
      | ((conv => whnf); refine ⟨?_⟩; simp only [g4, LX, if_true, if_false, Bool.false_eq_true, Bool.not_true, Bool.not_false, hDp, hS6, hMid, hEnd, hE0, hW, hS5, hM, hS4, hOp, hS3, hTw, e1, e2]; done)
      | ((conv => whnf); skip)
set_option maxRecDepth 100000 in
set_option maxHeartbeats 4000000 in
theorem gs_5 (D2 : VData) (m : Nat → Nat) (t : ByteArray) (ht : t.size < 9223372036854775808) : F Tryd.prog (withW (tab (DN m D2) (tb_size m)) ws_r) Tryd.f63 [.one (.str t), .one (.b64 true 5#64)] (fun r => r = .agg (LX (g5 t))) := by
  rcases hd3 t with ⟨a1, a2, e1, e2⟩ | ⟨a1, a2, e1, e2⟩ | ⟨a1, a2, e1, e2⟩
  all_goals
    repeat' (first
      | (with_reducible apply Given.mk; intro h; (try simp only [a1, a2, Bool.not_true, Bool.not_false, BitVec.reduceBEq, BitVec.reduceSLT, eq_self, Bool.true_eq_false, Bool.false_eq_true] at h); (try exact absurd h (by decide)))
      | ((conv => whnf); with_reducible apply Both.mk))
    all_goals first
      | (with_reducible apply Ob.mk; kernel_rfl)
      | ((with_reducible apply Ob.mk); with_reducible exact ne_pos a1)
      | ((with_reducible apply Ob.mk); with_reducible exact ht)
      | ((with_reducible apply Ob.mk); refine ⟨rfl, rfl, rfl, ?_, ?_⟩ <;> (repeat' (first | (with_reducible exact ht) | (with_reducible exact take1) | (with_reducible exact take4) | (with_reducible exact take8) | (with_reducible refine cut_lt ?_) | (with_reducible refine drop_lt ?_) | decide)); done)
      | (with_reducible apply Ob.mk; decide)
      | ((conv => whnf); refine ⟨?_⟩; simp only [g5, LX, if_true, if_false, Bool.false_eq_true, Bool.not_true, Bool.not_false, hDp, hS6, hMid, hEnd, hE0, hW, hS5, hM, hS4, hOp, hS3, hTw, e1, e2]; done)
      | ((conv => whnf); skip)
set_option maxRecDepth 100000 in
set_option maxHeartbeats 4000000 in
theorem gs_6 (D2 : VData) (m : Nat → Nat) (t : ByteArray) (ht : t.size < 9223372036854775808) : F Tryd.prog (withW (tab (DN m D2) (tb_size m)) ws_r) Tryd.f63 [.one (.str t), .one (.b64 true 6#64)] (fun r => r = .agg (LX (g6 t))) := by
  rcases hd3 t with ⟨a1, a2, e1, e2⟩ | ⟨a1, a2, e1, e2⟩ | ⟨a1, a2, e1, e2⟩
  all_goals
    repeat' (first
      | (with_reducible apply Given.mk; intro h; (try simp only [a1, a2, Bool.not_true, Bool.not_false, BitVec.reduceBEq, BitVec.reduceSLT, eq_self, Bool.true_eq_false, Bool.false_eq_true] at h); (try exact absurd h (by decide)))
      | ((conv => whnf); with_reducible apply Both.mk))
    all_goals first
      | (with_reducible apply Ob.mk; kernel_rfl)
      | ((with_reducible apply Ob.mk); with_reducible exact ne_pos a1)
      | ((with_reducible apply Ob.mk); with_reducible exact ht)
      | ((with_reducible apply Ob.mk); refine ⟨rfl, rfl, rfl, ?_, ?_⟩ <;> (repeat' (first | (with_reducible exact ht) | (with_reducible exact take1) | (with_reducible exact take4) | (with_reducible exact take8) | (with_reducible refine cut_lt ?_) | (with_reducible refine drop_lt ?_) | decide)); done)
      | (with_reducible apply Ob.mk; decide)
      | ((conv => whnf); refine ⟨?_⟩; simp only [g6, LX, if_true, if_false, Bool.false_eq_true, Bool.not_true, Bool.not_false, hDp, hS6, hMid, hEnd, hE0, hW, hS5, hM, hS4, hOp, hS3, hTw, e1, e2]; done)
      | ((conv => whnf); skip)
set_option maxRecDepth 100000 in
set_option maxHeartbeats 4000000 in
theorem gs_7 (D2 : VData) (m : Nat → Nat) (t : ByteArray) (ht : t.size < 9223372036854775808) : F Tryd.prog (withW (tab (DN m D2) (tb_size m)) ws_r) Tryd.f63 [.one (.str t), .one (.b64 true 7#64)] (fun r => r = .agg (LX (g7 t))) := by
  rcases hd3 t with ⟨a1, a2, e1, e2⟩ | ⟨a1, a2, e1, e2⟩ | ⟨a1, a2, e1, e2⟩
  all_goals
    repeat' (first
      | (with_reducible apply Given.mk; intro h; (try simp only [a1, a2, Bool.not_true, Bool.not_false, BitVec.reduceBEq, BitVec.reduceSLT, eq_self, Bool.true_eq_false, Bool.false_eq_true] at h); (try exact absurd h (by decide)))
      | ((conv => whnf); with_reducible apply Both.mk))
    all_goals first
      | (with_reducible apply Ob.mk; kernel_rfl)
      | ((with_reducible apply Ob.mk); with_reducible exact ne_pos a1)
      | ((with_reducible apply Ob.mk); with_reducible exact ht)
      | ((with_reducible apply Ob.mk); refine ⟨rfl, rfl, rfl, ?_, ?_⟩ <;> (repeat' (first | (with_reducible exact ht) | (with_reducible exact take1) | (with_reducible exact take4) | (with_reducible exact take8) | (with_reducible refine cut_lt ?_) | (with_reducible refine drop_lt ?_) | decide)); done)
      | (with_reducible apply Ob.mk; decide)
      | ((conv => whnf); refine ⟨?_⟩; simp only [g7, LX, if_true, if_false, Bool.false_eq_true, Bool.not_true, Bool.not_false, hDp, hS6, hMid, hEnd, hE0, hW, hS5, hM, hS4, hOp, hS3, hTw, e1, e2]; done)
      | ((conv => whnf); skip)
set_option maxRecDepth 100000 in
set_option maxHeartbeats 4000000 in
theorem gs_8 (D2 : VData) (m : Nat → Nat) (t : ByteArray) (ht : t.size < 9223372036854775808) : F Tryd.prog (withW (tab (DN m D2) (tb_size m)) ws_r) Tryd.f63 [.one (.str t), .one (.b64 true 8#64)] (fun r => r = .agg (LX (g8 t))) := by
  rcases hd3 t with ⟨a1, a2, e1, e2⟩ | ⟨a1, a2, e1, e2⟩ | ⟨a1, a2, e1, e2⟩
  all_goals
    repeat' (first
      | (with_reducible apply Given.mk; intro h; (try simp only [a1, a2, Bool.not_true, Bool.not_false, BitVec.reduceBEq, BitVec.reduceSLT, eq_self, Bool.true_eq_false, Bool.false_eq_true] at h); (try exact absurd h (by decide)))
      | ((conv => whnf); with_reducible apply Both.mk))
    all_goals first
      | (with_reducible apply Ob.mk; kernel_rfl)
      | ((with_reducible apply Ob.mk); with_reducible exact ne_pos a1)
      | ((with_reducible apply Ob.mk); with_reducible exact ht)
      | ((with_reducible apply Ob.mk); refine ⟨rfl, rfl, rfl, ?_, ?_⟩ <;> (repeat' (first | (with_reducible exact ht) | (with_reducible exact take1) | (with_reducible exact take4) | (with_reducible exact take8) | (with_reducible refine cut_lt ?_) | (with_reducible refine drop_lt ?_) | decide)); done)
      | (with_reducible apply Ob.mk; decide)
      | ((conv => whnf); refine ⟨?_⟩; simp only [g8, LX, if_true, if_false, Bool.false_eq_true, Bool.not_true, Bool.not_false, hDp, hS6, hMid, hEnd, hE0, hW, hS5, hM, hS4, hOp, hS3, hTw, e1, e2]; done)
      | ((conv => whnf); skip)
set_option maxRecDepth 100000 in
set_option maxHeartbeats 4000000 in
theorem gs_9 (D2 : VData) (m : Nat → Nat) (t : ByteArray) (ht : t.size < 9223372036854775808) : F Tryd.prog (withW (tab (DN m D2) (tb_size m)) ws_r) Tryd.f63 [.one (.str t), .one (.b64 true 9#64)] (fun r => r = .agg (LX (g9 t))) := by
  rcases hd3 t with ⟨a1, a2, e1, e2⟩ | ⟨a1, a2, e1, e2⟩ | ⟨a1, a2, e1, e2⟩
  all_goals
    repeat' (first
      | (with_reducible apply Given.mk; intro h; (try simp only [a1, a2, Bool.not_true, Bool.not_false, BitVec.reduceBEq, BitVec.reduceSLT, eq_self, Bool.true_eq_false, Bool.false_eq_true] at h); (try exact absurd h (by decide)))
      | ((conv => whnf); with_reducible apply Both.mk))
    all_goals first
      | (with_reducible apply Ob.mk; kernel_rfl)
      | ((with_reducible apply Ob.mk); with_reducible exact ne_pos a1)
      | ((with_reducible apply Ob.mk); with_reducible exact ht)
      | ((with_reducible apply Ob.mk); refine ⟨rfl, rfl, rfl, ?_, ?_⟩ <;> (repeat' (first | (with_reducible exact ht) | (with_reducible exact take1) | (with_reducible exact take4) | (with_reducible exact take8) | (with_reducible refine cut_lt ?_) | (with_reducible refine drop_lt ?_) | decide)); done)
      | (with_reducible apply Ob.mk; decide)
      | ((conv => whnf); refine ⟨?_⟩; simp only [g9, LX, if_true, if_false, Bool.false_eq_true, Bool.not_true, Bool.not_false, hDp, hS6, hMid, hEnd, hE0, hW, hS5, hM, hS4, hOp, hS3, hTw, e1, e2]; done)
      | ((conv => whnf); skip)
set_option maxRecDepth 100000 in
set_option maxHeartbeats 4000000 in
theorem gs_10 (D2 : VData) (m : Nat → Nat) (t : ByteArray) (ht : t.size < 9223372036854775808) : F Tryd.prog (withW (tab (DN m D2) (tb_size m)) ws_r) Tryd.f63 [.one (.str t), .one (.b64 true 10#64)] (fun r => r = .agg (LX (g10 t))) := by
  rcases hd3 t with ⟨a1, a2, e1, e2⟩ | ⟨a1, a2, e1, e2⟩ | ⟨a1, a2, e1, e2⟩
  all_goals
    repeat' (first
      | (with_reducible apply Given.mk; intro h; (try simp only [a1, a2, Bool.not_true, Bool.not_false, BitVec.reduceBEq, BitVec.reduceSLT, eq_self, Bool.true_eq_false, Bool.false_eq_true] at h); (try exact absurd h (by decide)))
      | ((conv => whnf); with_reducible apply Both.mk))
    all_goals first
      | (with_reducible apply Ob.mk; kernel_rfl)
      | ((with_reducible apply Ob.mk); with_reducible exact ne_pos a1)
      | ((with_reducible apply Ob.mk); with_reducible exact ht)
      | ((with_reducible apply Ob.mk); refine ⟨rfl, rfl, rfl, ?_, ?_⟩ <;> (repeat' (first | (with_reducible exact ht) | (with_reducible exact take1) | (with_reducible exact take4) | (with_reducible exact take8) | (with_reducible refine cut_lt ?_) | (with_reducible refine drop_lt ?_) | decide)); done)
      | (with_reducible apply Ob.mk; decide)
      | ((conv => whnf); refine ⟨?_⟩; simp only [g10, LX, if_true, if_false, Bool.false_eq_true, Bool.not_true, Bool.not_false, hDp, hS6, hMid, hEnd, hE0, hW, hS5, hM, hS4, hOp, hS3, hTw, e1, e2]; done)
      | ((conv => whnf); skip)
set_option maxRecDepth 100000 in
set_option maxHeartbeats 4000000 in
theorem gs_11 (D2 : VData) (m : Nat → Nat) (t : ByteArray) (ht : t.size < 9223372036854775808) : F Tryd.prog (withW (tab (DN m D2) (tb_size m)) ws_r) Tryd.f63 [.one (.str t), .one (.b64 true 11#64)] (fun r => r = .agg (LX (g11 t))) := by
  rcases hd3 t with ⟨a1, a2, e1, e2⟩ | ⟨a1, a2, e1, e2⟩ | ⟨a1, a2, e1, e2⟩
  all_goals
    repeat' (first
      | (with_reducible apply Given.mk; intro h; (try simp only [a1, a2, Bool.not_true, Bool.not_false, BitVec.reduceBEq, BitVec.reduceSLT, eq_self, Bool.true_eq_false, Bool.false_eq_true] at h); (try exact absurd h (by decide)))
      | ((conv => whnf); with_reducible apply Both.mk))
    all_goals first
      | (with_reducible apply Ob.mk; kernel_rfl)
      | ((with_reducible apply Ob.mk); with_reducible exact ne_pos a1)
      | ((with_reducible apply Ob.mk); with_reducible exact ht)
      | ((with_reducible apply Ob.mk); refine ⟨rfl, rfl, rfl, ?_, ?_⟩ <;> (repeat' (first | (with_reducible exact ht) | (with_reducible exact take1) | (with_reducible exact take4) | (with_reducible exact take8) | (with_reducible refine cut_lt ?_) | (with_reducible refine drop_lt ?_) | decide)); done)
      | (with_reducible apply Ob.mk; decide)
      | ((conv => whnf); refine ⟨?_⟩; simp only [g11, LX, if_true, if_false, Bool.false_eq_true, Bool.not_true, Bool.not_false, hDp, hS6, hMid, hEnd, hE0, hW, hS5, hM, hS4, hOp, hS3, hTw, e1, e2]; done)
      | ((conv => whnf); skip)
set_option maxRecDepth 100000 in
set_option maxHeartbeats 4000000 in
theorem gs_12 (D2 : VData) (m : Nat → Nat) (t : ByteArray) (ht : t.size < 9223372036854775808) : F Tryd.prog (withW (tab (DN m D2) (tb_size m)) ws_r) Tryd.f63 [.one (.str t), .one (.b64 true 12#64)] (fun r => r = .agg (LX (g12 t))) := by
  rcases hd3 t with ⟨a1, a2, e1, e2⟩ | ⟨a1, a2, e1, e2⟩ | ⟨a1, a2, e1, e2⟩
  all_goals
    repeat' (first
      | (with_reducible apply Given.mk; intro h; (try simp only [a1, a2, Bool.not_true, Bool.not_false, BitVec.reduceBEq, BitVec.reduceSLT, eq_self, Bool.true_eq_false, Bool.false_eq_true] at h); (try exact absurd h (by decide)))
      | ((conv => whnf); with_reducible apply Both.mk))
    all_goals first
      | (with_reducible apply Ob.mk; kernel_rfl)
      | ((with_reducible apply Ob.mk); with_reducible exact ne_pos a1)
      | ((with_reducible apply Ob.mk); with_reducible exact ht)
      | ((with_reducible apply Ob.mk); refine ⟨rfl, rfl, rfl, ?_, ?_⟩ <;> (repeat' (first | (with_reducible exact ht) | (with_reducible exact take1) | (with_reducible exact take4) | (with_reducible exact take8) | (with_reducible refine cut_lt ?_) | (with_reducible refine drop_lt ?_) | decide)); done)
      | (with_reducible apply Ob.mk; decide)
      | ((conv => whnf); refine ⟨?_⟩; simp only [g12, LX, if_true, if_false, Bool.false_eq_true, Bool.not_true, Bool.not_false, hDp, hS6, hMid, hEnd, hE0, hW, hS5, hM, hS4, hOp, hS3, hTw, e1, e2]; done)
      | ((conv => whnf); skip)
set_option maxRecDepth 100000 in
set_option maxHeartbeats 4000000 in
theorem gs_13 (D2 : VData) (m : Nat → Nat) (t : ByteArray) (ht : t.size < 9223372036854775808) : F Tryd.prog (withW (tab (DN m D2) (tb_size m)) ws_r) Tryd.f63 [.one (.str t), .one (.b64 true 13#64)] (fun r => r = .agg (LX (g13 t))) := by
  rcases hd3 t with ⟨a1, a2, e1, e2⟩ | ⟨a1, a2, e1, e2⟩ | ⟨a1, a2, e1, e2⟩
  all_goals
    cases h5 : ((hEnd t &&& 7#64) == 4#64)
    all_goals
      have h6 := h5
      simp only [hEnd, hE0, hM, hS4, hS3, e1, e2] at h5
      repeat' (first
        | (with_reducible apply Given.mk; intro h; (try simp only [a1, a2, h5, Bool.not_true, Bool.not_false, BitVec.reduceBEq, BitVec.reduceSLT, eq_self, Bool.true_eq_false, Bool.false_eq_true] at h); (try exact absurd h (by decide)))
        | ((conv => whnf); with_reducible apply Both.mk))
      all_goals first
        | (with_reducible apply Ob.mk; kernel_rfl)
        | ((with_reducible apply Ob.mk); with_reducible exact ne_pos a1)
        | ((with_reducible apply Ob.mk); with_reducible exact ht)
        | ((with_reducible apply Ob.mk); refine ⟨rfl, rfl, rfl, ?_, ?_⟩ <;> (repeat' (first | (with_reducible exact ht) | (with_reducible exact take1) | (with_reducible exact take4) | (with_reducible exact take8) | (with_reducible refine cut_lt ?_) | (with_reducible refine drop_lt ?_) | decide)); done)
        | (with_reducible apply Ob.mk; decide)
        | ((conv => whnf); refine ⟨?_⟩; simp only [g13, LX, h6, h5, if_true, if_false, Bool.false_eq_true, Bool.not_true, Bool.not_false, hDp, hS6, hMid, hEnd, hE0, hW, hS5, hM, hS4, hOp, hS3, hTw, e1, e2]; done)
        | ((conv => whnf); skip)
set_option maxRecDepth 100000 in
set_option maxHeartbeats 4000000 in
theorem gs_14 (D2 : VData) (m : Nat → Nat) (t : ByteArray) (ht : t.size < 9223372036854775808) : F Tryd.prog (withW (tab (DN m D2) (tb_size m)) ws_r) Tryd.f63 [.one (.str t), .one (.b64 true 14#64)] (fun r => r = .agg (LX (g14 t))) := by
  rcases hd3 t with ⟨a1, a2, e1, e2⟩ | ⟨a1, a2, e1, e2⟩ | ⟨a1, a2, e1, e2⟩
  all_goals
    cases h5 : ((hEnd t &&& 7#64) == 4#64)
    all_goals
      have h6 := h5
      simp only [hEnd, hE0, hM, hS4, hS3, e1, e2] at h5
      repeat' (first
        | (with_reducible apply Given.mk; intro h; (try simp only [a1, a2, h5, Bool.not_true, Bool.not_false, BitVec.reduceBEq, BitVec.reduceSLT, eq_self, Bool.true_eq_false, Bool.false_eq_true] at h); (try exact absurd h (by decide)))
        | ((conv => whnf); with_reducible apply Both.mk))
      all_goals first
        | (with_reducible apply Ob.mk; kernel_rfl)
        | ((with_reducible apply Ob.mk); with_reducible exact ne_pos a1)
        | ((with_reducible apply Ob.mk); with_reducible exact ht)
        | ((with_reducible apply Ob.mk); refine ⟨rfl, rfl, rfl, ?_, ?_⟩ <;> (repeat' (first | (with_reducible exact ht) | (with_reducible exact take1) | (with_reducible exact take4) | (with_reducible exact take8) | (with_reducible refine cut_lt ?_) | (with_reducible refine drop_lt ?_) | decide)); done)
        | (with_reducible apply Ob.mk; decide)
        | ((conv => whnf); refine ⟨?_⟩; simp only [g14, LX, h6, h5, if_true, if_false, Bool.false_eq_true, Bool.not_true, Bool.not_false, hDp, hS6, hMid, hEnd, hE0, hW, hS5, hM, hS4, hOp, hS3, hTw, e1, e2]; done)
        | ((conv => whnf); skip)
set_option maxRecDepth 100000 in
set_option maxHeartbeats 4000000 in
theorem gs_15 (D2 : VData) (m : Nat → Nat) (t : ByteArray) (ht : t.size < 9223372036854775808) : F Tryd.prog (withW (tab (DN m D2) (tb_size m)) ws_r) Tryd.f63 [.one (.str t), .one (.b64 true 15#64)] (fun r => r = .agg (LX (g15 t))) := by
  rcases hd3 t with ⟨a1, a2, e1, e2⟩ | ⟨a1, a2, e1, e2⟩ | ⟨a1, a2, e1, e2⟩
  all_goals
    cases h5 : (hOp t == 235#64)
    all_goals
      have h6 := h5
      simp only [hOp, hS3, e1, e2] at h5
      repeat' (first
        | (with_reducible apply Given.mk; intro h; (try simp only [a1, a2, h5, Bool.not_true, Bool.not_false, BitVec.reduceBEq, BitVec.reduceSLT, eq_self, Bool.true_eq_false, Bool.false_eq_true] at h); (try exact absurd h (by decide)))
        | ((conv => whnf); with_reducible apply Both.mk))
      all_goals first
        | (with_reducible apply Ob.mk; kernel_rfl)
        | ((with_reducible apply Ob.mk); with_reducible exact ne_pos a1)
        | ((with_reducible apply Ob.mk); with_reducible exact ht)
        | ((with_reducible apply Ob.mk); refine ⟨rfl, rfl, rfl, ?_, ?_⟩ <;> (repeat' (first | (with_reducible exact ht) | (with_reducible exact take1) | (with_reducible exact take4) | (with_reducible exact take8) | (with_reducible refine cut_lt ?_) | (with_reducible refine drop_lt ?_) | decide)); done)
        | (with_reducible apply Ob.mk; decide)
        | ((conv => whnf); refine ⟨?_⟩; simp only [g15, LX, h6, h5, if_true, if_false, Bool.false_eq_true, Bool.not_true, Bool.not_false, hDp, hS6, hMid, hEnd, hE0, hW, hS5, hM, hS4, hOp, hS3, hTw, e1, e2]; done)
        | ((conv => whnf); skip)
set_option maxRecDepth 100000 in
set_option maxHeartbeats 4000000 in
theorem gs_16 (D2 : VData) (m : Nat → Nat) (t : ByteArray) (ht : t.size < 9223372036854775808) : F Tryd.prog (withW (tab (DN m D2) (tb_size m)) ws_r) Tryd.f63 [.one (.str t), .one (.b64 true 16#64)] (fun r => r = .agg (LX (g16 t))) := by
  rcases hd3 t with ⟨a1, a2, e1, e2⟩ | ⟨a1, a2, e1, e2⟩ | ⟨a1, a2, e1, e2⟩
  all_goals
    cases h5 : hTw t
    all_goals
      have h6 := h5
      simp only [hTw, e1, e2] at h5
      repeat' (first
        | (with_reducible apply Given.mk; intro h; (try simp only [a1, a2, h5, Bool.not_true, Bool.not_false, BitVec.reduceBEq, BitVec.reduceSLT, eq_self, Bool.true_eq_false, Bool.false_eq_true] at h); (try exact absurd h (by decide)))
        | ((conv => whnf); with_reducible apply Both.mk))
      all_goals first
        | (with_reducible apply Ob.mk; kernel_rfl)
        | ((with_reducible apply Ob.mk); with_reducible exact ne_pos a1)
        | ((with_reducible apply Ob.mk); with_reducible exact ht)
        | ((with_reducible apply Ob.mk); refine ⟨rfl, rfl, rfl, ?_, ?_⟩ <;> (repeat' (first | (with_reducible exact ht) | (with_reducible exact take1) | (with_reducible exact take4) | (with_reducible exact take8) | (with_reducible refine cut_lt ?_) | (with_reducible refine drop_lt ?_) | decide)); done)
        | (with_reducible apply Ob.mk; decide)
        | ((conv => whnf); refine ⟨?_⟩; simp only [g16, LX, h6, h5, if_true, if_false, Bool.false_eq_true, Bool.not_true, Bool.not_false, hDp, hS6, hMid, hEnd, hE0, hW, hS5, hM, hS4, hOp, hS3, hTw, e1, e2]; done)
        | ((conv => whnf); skip)
set_option maxRecDepth 100000 in
set_option maxHeartbeats 4000000 in
theorem gs_17 (D2 : VData) (m : Nat → Nat) (t : ByteArray) (ht : t.size < 9223372036854775808) : F Tryd.prog (withW (tab (DN m D2) (tb_size m)) ws_r) Tryd.f63 [.one (.str t), .one (.b64 true 17#64)] (fun r => r = .agg (LX (g17 t))) := by
  rcases hd3 t with ⟨a1, a2, e1, e2⟩ | ⟨a1, a2, e1, e2⟩ | ⟨a1, a2, e1, e2⟩
  all_goals
    repeat' (first
      | (with_reducible apply Given.mk; intro h; (try simp only [a1, a2, Bool.not_true, Bool.not_false, BitVec.reduceBEq, BitVec.reduceSLT, eq_self, Bool.true_eq_false, Bool.false_eq_true] at h); (try exact absurd h (by decide)))
      | ((conv => whnf); with_reducible apply Both.mk))
    all_goals first
      | (with_reducible apply Ob.mk; kernel_rfl)
      | ((with_reducible apply Ob.mk); with_reducible exact ne_pos a1)
      | ((with_reducible apply Ob.mk); with_reducible exact ht)
      | ((with_reducible apply Ob.mk); refine ⟨rfl, rfl, rfl, ?_, ?_⟩ <;> (repeat' (first | (with_reducible exact ht) | (with_reducible exact take1) | (with_reducible exact take4) | (with_reducible exact take8) | (with_reducible refine cut_lt ?_) | (with_reducible refine drop_lt ?_) | decide)); done)
      | (with_reducible apply Ob.mk; decide)
      | ((conv => whnf); refine ⟨?_⟩; simp only [g17, LX, if_true, if_false, Bool.false_eq_true, Bool.not_true, Bool.not_false, hDp, hS6, hMid, hEnd, hE0, hW, hS5, hM, hS4, hOp, hS3, hTw, e1, e2]; done)
      | ((conv => whnf); skip)
set_option maxRecDepth 100000 in
set_option maxHeartbeats 4000000 in
theorem gs_18 (D2 : VData) (m : Nat → Nat) (t : ByteArray) (ht : t.size < 9223372036854775808) : F Tryd.prog (withW (tab (DN m D2) (tb_size m)) ws_r) Tryd.f63 [.one (.str t), .one (.b64 true 18#64)] (fun r => r = .agg (LX (g18 t))) := by
  rcases hd3 t with ⟨a1, a2, e1, e2⟩ | ⟨a1, a2, e1, e2⟩ | ⟨a1, a2, e1, e2⟩
  all_goals
    repeat' (first
      | (with_reducible apply Given.mk; intro h; (try simp only [a1, a2, Bool.not_true, Bool.not_false, BitVec.reduceBEq, BitVec.reduceSLT, eq_self, Bool.true_eq_false, Bool.false_eq_true] at h); (try exact absurd h (by decide)))
      | ((conv => whnf); with_reducible apply Both.mk))
    all_goals first
      | (with_reducible apply Ob.mk; kernel_rfl)
      | ((with_reducible apply Ob.mk); with_reducible exact ne_pos a1)
      | ((with_reducible apply Ob.mk); with_reducible exact ht)
      | ((with_reducible apply Ob.mk); refine ⟨rfl, rfl, rfl, ?_, ?_⟩ <;> (repeat' (first | (with_reducible exact ht) | (with_reducible exact take1) | (with_reducible exact take4) | (with_reducible exact take8) | (with_reducible refine cut_lt ?_) | (with_reducible refine drop_lt ?_) | decide)); done)
      | (with_reducible apply Ob.mk; decide)
      | ((conv => whnf); refine ⟨?_⟩; simp only [g18, LX, if_true, if_false, Bool.false_eq_true, Bool.not_true, Bool.not_false, hDp, hS6, hMid, hEnd, hE0, hW, hS5, hM, hS4, hOp, hS3, hTw, e1, e2]; done)
      | ((conv => whnf); skip)
set_option maxRecDepth 100000 in
set_option maxHeartbeats 4000000 in
theorem gs_19 (D2 : VData) (m : Nat → Nat) (t : ByteArray) (ht : t.size < 9223372036854775808) : F Tryd.prog (withW (tab (DN m D2) (tb_size m)) ws_r) Tryd.f63 [.one (.str t), .one (.b64 true 19#64)] (fun r => r = .agg (LX (g19 t))) := by
  rcases hd3 t with ⟨a1, a2, e1, e2⟩ | ⟨a1, a2, e1, e2⟩ | ⟨a1, a2, e1, e2⟩
  all_goals
    repeat' (first
      | (with_reducible apply Given.mk; intro h; (try simp only [a1, a2, Bool.not_true, Bool.not_false, BitVec.reduceBEq, BitVec.reduceSLT, eq_self, Bool.true_eq_false, Bool.false_eq_true] at h); (try exact absurd h (by decide)))
      | ((conv => whnf); with_reducible apply Both.mk))
    all_goals first
      | (with_reducible apply Ob.mk; kernel_rfl)
      | ((with_reducible apply Ob.mk); with_reducible exact ne_pos a1)
      | ((with_reducible apply Ob.mk); with_reducible exact ht)
      | ((with_reducible apply Ob.mk); refine ⟨rfl, rfl, rfl, ?_, ?_⟩ <;> (repeat' (first | (with_reducible exact ht) | (with_reducible exact take1) | (with_reducible exact take4) | (with_reducible exact take8) | (with_reducible refine cut_lt ?_) | (with_reducible refine drop_lt ?_) | decide)); done)
      | (with_reducible apply Ob.mk; decide)
      | ((conv => whnf); refine ⟨?_⟩; simp only [g19, LX, if_true, if_false, Bool.false_eq_true, Bool.not_true, Bool.not_false, hDp, hS6, hMid, hEnd, hE0, hW, hS5, hM, hS4, hOp, hS3, hTw, e1, e2]; done)
      | ((conv => whnf); skip)
set_option maxRecDepth 100000 in
set_option maxHeartbeats 4000000 in
theorem gs_20 (D2 : VData) (m : Nat → Nat) (t : ByteArray) (ht : t.size < 9223372036854775808) : F Tryd.prog (withW (tab (DN m D2) (tb_size m)) ws_r) Tryd.f63 [.one (.str t), .one (.b64 true 20#64)] (fun r => r = .agg (LX (g20 t))) := by
  rcases hd3 t with ⟨a1, a2, e1, e2⟩ | ⟨a1, a2, e1, e2⟩ | ⟨a1, a2, e1, e2⟩
  all_goals
    repeat' (first
      | (with_reducible apply Given.mk; intro h; (try simp only [a1, a2, Bool.not_true, Bool.not_false, BitVec.reduceBEq, BitVec.reduceSLT, eq_self, Bool.true_eq_false, Bool.false_eq_true] at h); (try exact absurd h (by decide)))
      | ((conv => whnf); with_reducible apply Both.mk))
    all_goals first
      | (with_reducible apply Ob.mk; kernel_rfl)
      | ((with_reducible apply Ob.mk); with_reducible exact ne_pos a1)
      | ((with_reducible apply Ob.mk); with_reducible exact ht)
      | ((with_reducible apply Ob.mk); refine ⟨rfl, rfl, rfl, ?_, ?_⟩ <;> (repeat' (first | (with_reducible exact ht) | (with_reducible exact take1) | (with_reducible exact take4) | (with_reducible exact take8) | (with_reducible refine cut_lt ?_) | (with_reducible refine drop_lt ?_) | decide)); done)
      | (with_reducible apply Ob.mk; decide)
      | ((conv => whnf); refine ⟨?_⟩; simp only [g20, LX, if_true, if_false, Bool.false_eq_true, Bool.not_true, Bool.not_false, hDp, hS6, hMid, hEnd, hE0, hW, hS5, hM, hS4, hOp, hS3, hTw, e1, e2]; done)
      | ((conv => whnf); skip)
set_option maxRecDepth 100000 in
set_option maxHeartbeats 4000000 in
theorem gs_21 (D2 : VData) (m : Nat → Nat) (t : ByteArray) (ht : t.size < 9223372036854775808) : F Tryd.prog (withW (tab (DN m D2) (tb_size m)) ws_r) Tryd.f63 [.one (.str t), .one (.b64 true 21#64)] (fun r => r = .agg (LX (g21 t))) := by
  rcases hd3 t with ⟨a1, a2, e1, e2⟩ | ⟨a1, a2, e1, e2⟩ | ⟨a1, a2, e1, e2⟩
  all_goals
    repeat' (first
      | (with_reducible apply Given.mk; intro h; (try simp only [a1, a2, Bool.not_true, Bool.not_false, BitVec.reduceBEq, BitVec.reduceSLT, eq_self, Bool.true_eq_false, Bool.false_eq_true] at h); (try exact absurd h (by decide)))
      | ((conv => whnf); with_reducible apply Both.mk))
    all_goals first
      | (with_reducible apply Ob.mk; kernel_rfl)
      | ((with_reducible apply Ob.mk); with_reducible exact ne_pos a1)
      | ((with_reducible apply Ob.mk); with_reducible exact ht)
      | ((with_reducible apply Ob.mk); refine ⟨rfl, rfl, rfl, ?_, ?_⟩ <;> (repeat' (first | (with_reducible exact ht) | (with_reducible exact take1) | (with_reducible exact take4) | (with_reducible exact take8) | (with_reducible refine cut_lt ?_) | (with_reducible refine drop_lt ?_) | decide)); done)
      | (with_reducible apply Ob.mk; decide)
      | ((conv => whnf); refine ⟨?_⟩; simp only [g21, LX, if_true, if_false, Bool.false_eq_true, Bool.not_true, Bool.not_false, hDp, hS6, hMid, hEnd, hE0, hW, hS5, hM, hS4, hOp, hS3, hTw, e1, e2]; done)
      | ((conv => whnf); skip)
def sp_guess : Sp
  | [.one (.str t), .one (.b64 true k)] => some (Cond.p (t.size < 9223372036854775808 ∧ 1 ≤ k.toNat ∧ k.toNat ≤ 21), .agg (LX (G k.toNat t)))
  | _ => none
theorem ks21 {k : BitVec 64} (h1 : 1 ≤ k.toNat) (h2 : k.toNat ≤ 21) : k = 1#64 ∨ k = 2#64 ∨ k = 3#64 ∨ k = 4#64 ∨ k = 5#64 ∨ k = 6#64 ∨ k = 7#64 ∨ k = 8#64 ∨ k = 9#64 ∨ k = 10#64 ∨ k = 11#64 ∨ k = 12#64 ∨ k = 13#64 ∨ k = 14#64 ∨ k = 15#64 ∨ k = 16#64 ∨ k = 17#64 ∨ k = 18#64 ∨ k = 19#64 ∨ k = 20#64 ∨ k = 21#64 := by
  have key : ∀ n : Nat, n < 2 ^ 64 → k.toNat = n → k = BitVec.ofNat 64 n := fun n hn h => BitVec.eq_of_toNat_eq (by rw [h, BitVec.toNat_ofNat, Nat.mod_eq_of_lt hn])
  have : k.toNat = 1 ∨ k.toNat = 2 ∨ k.toNat = 3 ∨ k.toNat = 4 ∨ k.toNat = 5 ∨ k.toNat = 6 ∨ k.toNat = 7 ∨ k.toNat = 8 ∨ k.toNat = 9 ∨ k.toNat = 10 ∨ k.toNat = 11 ∨ k.toNat = 12 ∨ k.toNat = 13 ∨ k.toNat = 14 ∨ k.toNat = 15 ∨ k.toNat = 16 ∨ k.toNat = 17 ∨ k.toNat = 18 ∨ k.toNat = 19 ∨ k.toNat = 20 ∨ k.toNat = 21 := by omega
  rcases this with h | h | h | h | h | h | h | h | h | h | h | h | h | h | h | h | h | h | h | h | h
  · exact .inl (key 1 (by decide) h)
  · exact .inr (.inl (key 2 (by decide) h))
  · exact .inr (.inr (.inl (key 3 (by decide) h)))
  · exact .inr (.inr (.inr (.inl (key 4 (by decide) h))))
  · exact .inr (.inr (.inr (.inr (.inl (key 5 (by decide) h)))))
  · exact .inr (.inr (.inr (.inr (.inr (.inl (key 6 (by decide) h))))))
  · exact .inr (.inr (.inr (.inr (.inr (.inr (.inl (key 7 (by decide) h)))))))
  · exact .inr (.inr (.inr (.inr (.inr (.inr (.inr (.inl (key 8 (by decide) h))))))))
  · exact .inr (.inr (.inr (.inr (.inr (.inr (.inr (.inr (.inl (key 9 (by decide) h)))))))))
  · exact .inr (.inr (.inr (.inr (.inr (.inr (.inr (.inr (.inr (.inl (key 10 (by decide) h))))))))))
  · exact .inr (.inr (.inr (.inr (.inr (.inr (.inr (.inr (.inr (.inr (.inl (key 11 (by decide) h)))))))))))
  · exact .inr (.inr (.inr (.inr (.inr (.inr (.inr (.inr (.inr (.inr (.inr (.inl (key 12 (by decide) h))))))))))))
  · exact .inr (.inr (.inr (.inr (.inr (.inr (.inr (.inr (.inr (.inr (.inr (.inr (.inl (key 13 (by decide) h)))))))))))))
  · exact .inr (.inr (.inr (.inr (.inr (.inr (.inr (.inr (.inr (.inr (.inr (.inr (.inr (.inl (key 14 (by decide) h))))))))))))))
  · exact .inr (.inr (.inr (.inr (.inr (.inr (.inr (.inr (.inr (.inr (.inr (.inr (.inr (.inr (.inl (key 15 (by decide) h)))))))))))))))
  · exact .inr (.inr (.inr (.inr (.inr (.inr (.inr (.inr (.inr (.inr (.inr (.inr (.inr (.inr (.inr (.inl (key 16 (by decide) h))))))))))))))))
  · exact .inr (.inr (.inr (.inr (.inr (.inr (.inr (.inr (.inr (.inr (.inr (.inr (.inr (.inr (.inr (.inr (.inl (key 17 (by decide) h)))))))))))))))))
  · exact .inr (.inr (.inr (.inr (.inr (.inr (.inr (.inr (.inr (.inr (.inr (.inr (.inr (.inr (.inr (.inr (.inr (.inl (key 18 (by decide) h))))))))))))))))))
  · exact .inr (.inr (.inr (.inr (.inr (.inr (.inr (.inr (.inr (.inr (.inr (.inr (.inr (.inr (.inr (.inr (.inr (.inr (.inl (key 19 (by decide) h)))))))))))))))))))
  · exact .inr (.inr (.inr (.inr (.inr (.inr (.inr (.inr (.inr (.inr (.inr (.inr (.inr (.inr (.inr (.inr (.inr (.inr (.inr (.inl (key 20 (by decide) h))))))))))))))))))))
  · exact .inr (.inr (.inr (.inr (.inr (.inr (.inr (.inr (.inr (.inr (.inr (.inr (.inr (.inr (.inr (.inr (.inr (.inr (.inr (.inr (key 21 (by decide) h))))))))))))))))))))

set_option maxRecDepth 100000 in
set_option maxHeartbeats 4000000 in
theorem e_guess (G2 : World → Prop) (D2 : VData) (k2 : DataOK Tryd.prog G2 D2) (m : Nat → Nat) : EntryOK Tryd.prog (GN m G2) 63 sp_guess := by
  refine .of_F ((C_size G2 D2 k2 m).withW (W_r G2 D2 k2 m)) (by kernel_rfl) Tryd.func63 (by kernel_rfl) (by kernel_rfl) (fun args c v h hc => ?_)
  unfold sp_guess at h
  split at h
  · rename_i t k; cases h
    refine ⟨rfl, rfl, ?_⟩
    obtain ⟨ht, h1, h2⟩ := hc
    rcases ks21 h1 h2 with rfl | rfl | rfl | rfl | rfl | rfl | rfl | rfl | rfl | rfl | rfl | rfl | rfl | rfl | rfl | rfl | rfl | rfl | rfl | rfl | rfl
    · exact gs_1 D2 m t ht
    · exact gs_2 D2 m t ht
    · exact gs_3 D2 m t ht
    · exact gs_4 D2 m t ht
    · exact gs_5 D2 m t ht
    · exact gs_6 D2 m t ht
    · exact gs_7 D2 m t ht
    · exact gs_8 D2 m t ht
    · exact gs_9 D2 m t ht
    · exact gs_10 D2 m t ht
    · exact gs_11 D2 m t ht
    · exact gs_12 D2 m t ht
    · exact gs_13 D2 m t ht
    · exact gs_14 D2 m t ht
    · exact gs_15 D2 m t ht
    · exact gs_16 D2 m t ht
    · exact gs_17 D2 m t ht
    · exact gs_18 D2 m t ht
    · exact gs_19 D2 m t ht
    · exact gs_20 D2 m t ht
    · exact gs_21 D2 m t ht
  · cases h
end Go.Proofs.YtppankimieopiaaDoor
