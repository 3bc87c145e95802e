/-
  The law's helper that lists a frame's values: what it makes, by the evaluator. Conditions: as typed.
-/
import Derived.Test.YtiopddomdpoaaaaRd
import Derived.Test.YtiopddomdpoaaaaPr
namespace Go.Proofs.Ytiopddomdpoaaaa
open Go.Ep Go.RowKit
set_option linter.unusedVariables false
set_option maxRecDepth 100000 in
set_option maxHeartbeats 8000000 in
theorem All_walk (r : RG) (g : PG) (nx : BitVec 64) : FI Try.prog (tab noData []) Try.f26 0 [.agg [.seg 11 11 (rgF r), .seg 12 64 (plF g), .b64 true nx]] [] (fun v h => ∃ x, v = .one (.rsl x 75) ∧ Go.Ep.look h x = some (.row 32 11 75 (rowA (allR r g) 75))) := by
  repeat' (first
    | (with_reducible apply Given.mk; intro h; (try exact absurd h (by decide)))
    | ((conv => whnf); first
      | with_reducible apply Both.mk
      | ((fail_if_success (have _q := one)); refine LoopP.mk (Option Nat) (fun x => match x with | none => True | some i => 1 ≤ i ∧ i ≤ 11) (fun x => Option.rec (mkS (Try.f26).ntmps [(1, .one (.ptr 1 0)), (2, .one (.raw (.slice none 0 0))), (3, .one (.raw (.slice none 0 0))), (4, iN 0)] [(1, .cells 62 [.seg 11 11 (rgF r), .seg 12 64 (plF g), .b64 true nx])]) (fun y => mkS (Try.f26).ntmps [(1, .one (.ptr 1 0)), (3, .one (.rsl 16 y)), (4, iN y)] [(16, .row 32 11 y (rowA (allR r g) y)), (1, .cells 62 [.seg 11 11 (rgF r), .seg 12 64 (plF g), .b64 true nx])]) x) (fun x => Option.rec 12 (fun y => 11 - y) x) ⟨none, trivial, ⟨?_, ?_, ?_, ?_, ?_⟩⟩ ?_; (focus ((repeat' ((conv => whnf); first | exact trivial | refine Both.mk (by first | with_reducible rfl | exact iN_succ _ | rfl) ?_)); done)); (focus ((repeat' ((conv => whnf); first | exact trivial | refine Both.mk (by first | with_reducible rfl | exact iN_succ _ | rfl) ?_)); done)); (focus exact rfl); (focus exact rfl); (focus exact rfl); (rintro (_ | i) one <;> (try (replace one : 1 ≤ i ∧ i ≤ 11 := one; dsimp only))))
      | ((have _q := one); (fail_if_success (have _q := two)); have e11 := done11 one.2 (by with_reducible assumption); subst e11; refine LoopP.mk Nat (fun y => y ≤ 64) (fun y => mkS (Try.f26).ntmps [(1, .one (.ptr 1 0)), (3, .one (.rsl 16 (11 + y))), (5, iN y)] [(16, .row 32 11 (11 + y) (rowA (allR r g) (11 + y))), (1, .cells 62 [.seg 11 11 (rgF r), .seg 12 64 (plF g), .b64 true nx])]) (fun y => 64 - y) ⟨0, Nat.zero_le _, ⟨?_, ?_, ?_, ?_, ?_⟩⟩ ?_; (focus ((repeat' ((conv => whnf); first | exact trivial | refine Both.mk (by first | with_reducible rfl | exact iN_succ _ | rfl) ?_)); done)); (focus ((repeat' ((conv => whnf); first | exact trivial | refine Both.mk (by first | with_reducible rfl | exact iN_succ _ | rfl) ?_)); done)); (focus exact rfl); (focus exact rfl); (focus exact rfl); (rintro j two; dsimp only at two ⊢))))
  all_goals first
    | (with_reducible apply Ob.mk; kernel_rfl)
    | (with_reducible apply Ob.mk; decide)
    | ((with_reducible apply Ob.mk); exact fun _ => rfl)
    | ((with_reducible apply Ob.mk); exact ix11 one.2 (by with_reducible assumption))
    | ((with_reducible apply Ob.mk); exact (ix11 one.2 (by with_reducible assumption)).2)
    | ((with_reducible apply Ob.mk); exact ⟨rfl, fun _ => rfl, fun _ => rfl⟩)
    | ((conv => whnf); refine ⟨some 1, ⟨Nat.le_refl _, by decide⟩, (by show 11 - 1 < 12; decide), ⟨?_, ?_, ?_, ?_, ?_⟩⟩; (focus ((repeat' ((conv => whnf); first | exact trivial | refine Both.mk (by first | with_reducible rfl | exact iN_succ _ | rfl | exact congrArg (Blk.row 32 11 1) (rowA_1 (allR_lo (by decide)))) ?_)); done)); (focus ((repeat' ((conv => whnf); first | exact trivial | refine Both.mk (by first | with_reducible rfl | exact iN_succ _ | rfl | exact congrArg (Blk.row 32 11 1) (rowA_1 (allR_lo (by decide)))) ?_)); done)); (focus exact rfl); (focus exact rfl); (focus exact rfl))
    | ((with_reducible apply Ob.mk); exact Nat.lt_of_le_of_lt (Nat.succ_le_succ one.2) (by decide : 11 + 1 < 65536))
    | ((with_reducible apply Ob.mk); exact ixS64 two (by with_reducible assumption))
    | ((with_reducible apply Ob.mk); exact (ixS64 two (by with_reducible assumption)).2)
    | ((with_reducible apply Ob.mk); exact (by have h64 : j ≤ 64 := two; show 11 + j + 1 < 65536; omega))
    | ((conv => whnf); (have hlt := ltS64 two (by with_reducible assumption)); refine ⟨j + 1, hlt, (by show 64 - (j + 1) < 64 - j; omega), ⟨?_, ?_, ?_, ?_, ?_⟩⟩; (focus ((repeat' ((conv => whnf); first | exact trivial | refine Both.mk (by first | with_reducible rfl | exact iN_succ _ | rfl | exact congrArg (Blk.row 32 11 (11 + j + 1)) (rowA_go (i := 11 + j) (by omega) (by rw [nat64 two]; exact allR_hi))) ?_)); done)); (focus ((repeat' ((conv => whnf); first | exact trivial | refine Both.mk (by first | with_reducible rfl | exact iN_succ _ | rfl | exact congrArg (Blk.row 32 11 (11 + j + 1)) (rowA_go (i := 11 + j) (by omega) (by rw [nat64 two]; exact allR_hi))) ?_)); done)); (focus exact rfl); (focus exact rfl); (focus exact rfl))
    | ((conv => whnf); (have hlt := lt11 one.2 (by with_reducible assumption)); refine ⟨some (i + 1), ⟨Nat.succ_le_succ (Nat.zero_le _), hlt⟩, (by show 11 - (i + 1) < 11 - i; omega), ⟨?_, ?_, ?_, ?_, ?_⟩⟩; (focus ((repeat' ((conv => whnf); first | exact trivial | refine Both.mk (by first | with_reducible rfl | exact iN_succ _ | rfl | exact congrArg (Blk.row 32 11 (i + 1)) (rowA_go one.1 (by rw [nat11 one.2]; exact allR_lo hlt))) ?_)); done)); (focus ((repeat' ((conv => whnf); first | exact trivial | refine Both.mk (by first | with_reducible rfl | exact iN_succ _ | rfl | exact congrArg (Blk.row 32 11 (i + 1)) (rowA_go one.1 (by rw [nat11 one.2]; exact allR_lo hlt))) ?_)); done)); (focus exact rfl); (focus exact rfl); (focus exact rfl))
    | ((conv => whnf); (try (with_reducible apply Ob.mk)); have e64 := done64 two (by with_reducible assumption); subst e64; exact ⟨16, rfl, rfl⟩)
    | (with_reducible apply Ob.mk; skip)
    | ((conv => whnf); skip)
def sp_all : SpK
  | [.agg [.seg z m f, .seg z' m' h, .b64 true nx]], _ => match Nat.beq z 11, Nat.beq m 11, Nat.beq z' 12, Nat.beq m' 64 with
    | true, true, true, true => some (Cond.p (f = rgF (rOf f) ∧ h = plF (gOf h)), .row 32 11 75 (rowA (allR (rOf f) (gOf h)) 75), .r 75)
    | _, _, _, _ => none
  | _, _ => none
set_option maxRecDepth 100000 in
set_option maxHeartbeats 8000000 in
theorem e_all : EntryK Try.prog anyWorld 26 sp_all := by
  refine .of_FI C_start (by kernel_rfl) Try.func26 (by kernel_rfl) (by kernel_rfl) (fun args bs c b nv h hc => ?_)
  unfold sp_all at h
  split at h
  · rename_i z m f z' m' g nx
    split at h
    · rename_i h1 h2 h3 h4
      obtain rfl : z = 11 := by simpa using h1
      obtain rfl : m = 11 := by simpa using h2
      obtain rfl : z' = 12 := by simpa using h3
      obtain rfl : m' = 64 := by simpa using h4
      cases h
      obtain ⟨e1, e2⟩ := hc
      refine ⟨rfl, rfl, rfl, ?_⟩
      generalize rOf f = r at e1 ⊢
      generalize gOf g = g' at e2 ⊢
      subst e1 e2
      exact All_walk r g' nx
    · cases h
  · cases h
abbrev ks_20 : List (Nat × SpK) := [(26, sp_all)]
end Go.Proofs.Ytiopddomdpoaaaa
