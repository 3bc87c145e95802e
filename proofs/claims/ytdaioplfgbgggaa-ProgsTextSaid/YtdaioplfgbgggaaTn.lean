/-
  Chapter 04: the document's names of operations: a contract, opcode by opcode. Conditions: none.
-/
import Derived.Test.YtdaioplfgbgggaaTa
namespace Go.Proofs.Ytdaioplfgbgggaa
open Go.Ep Go.RowKit
set_option linter.unusedVariables false
set_option linter.unusedSimpArgs false
def nthS : List ByteArray → Nat → ByteArray
  | [], _ => ⟨#[]⟩
  | s :: _, 0 => s
  | _ :: r, n + 1 => nthS r n
def nameA : List ByteArray := [⟨#[97, 100, 100]⟩, ⟨#[115, 117, 98]⟩, ⟨#[109, 117, 108]⟩, ⟨#[100, 105, 118]⟩, ⟨#[111, 114]⟩, ⟨#[97, 110, 100]⟩, ⟨#[108, 115, 104]⟩, ⟨#[114, 115, 104]⟩, ⟨#[110, 101, 103]⟩, ⟨#[109, 111, 100]⟩, ⟨#[120, 111, 114]⟩, ⟨#[109, 111, 118]⟩, ⟨#[97, 114, 115, 104]⟩, ⟨#[]⟩, ⟨#[]⟩, ⟨#[]⟩]
def nameJ : List ByteArray := [⟨#[]⟩, ⟨#[106, 101, 113]⟩, ⟨#[106, 103, 116]⟩, ⟨#[106, 103, 101]⟩, ⟨#[106, 115, 101, 116]⟩, ⟨#[106, 110, 101]⟩, ⟨#[106, 115, 103, 116]⟩, ⟨#[106, 115, 103, 101]⟩, ⟨#[]⟩, ⟨#[]⟩, ⟨#[106, 108, 116]⟩, ⟨#[106, 108, 101]⟩, ⟨#[106, 115, 108, 116]⟩, ⟨#[106, 115, 108, 101]⟩, ⟨#[]⟩, ⟨#[]⟩]
def nameS (o : BitVec 8) : ByteArray := match isA o with
  | true => nthS nameA (o / 16#8).toNat
  | false => nthS nameJ (o / 16#8).toNat
abbrev NmF (o : BitVec 8) : Prop := F Try.prog (tab noData tb_t) Try.f67 [.one (.b8 false o)] (fun r => r = .one (.str (nameS o)))
theorem b16 {b : Nat} (h : b < 16) : b = 0 ∨ b = 1 ∨ b = 2 ∨ b = 3 ∨ b = 4 ∨ b = 5 ∨ b = 6 ∨ b = 7 ∨ b = 8 ∨ b = 9 ∨ b = 10 ∨ b = 11 ∨ b = 12 ∨ b = 13 ∨ b = 14 ∨ b = 15 := by omega
theorem names_len (l : List ByteArray) (h : l.all (fun s => decide (s.size ≤ 10)) = true) : ∀ n, (nthS l n).size ≤ 10 := by
  induction l with
  | nil => intro n; exact (by decide : (0 : Nat) ≤ 10)
  | cons a r ih =>
    simp only [List.all_cons, Bool.and_eq_true] at h
    intro n
    cases n with
    | zero => exact of_decide_eq_true h.1
    | succ n => exact ih h.2 n
theorem nameS_len (o : BitVec 8) : (nameS o).size ≤ 10 := by
  unfold nameS
  split
  · exact names_len _ (by decide) _
  · exact names_len _ (by decide) _
set_option maxRecDepth 100000 in
theorem nm_0 : NmF 0#8 := by
  repeat' (first
    | (with_reducible apply Given.mk; intro h; (try exact absurd h (by decide)))
    | ((conv => whnf); with_reducible apply Both.mk))
  all_goals first
    | (with_reducible apply Ob.mk; decide)
    | ((conv => whnf); (with_reducible apply Ob.mk); exact rfl)
set_option maxRecDepth 100000 in
theorem nm_1 : NmF 1#8 := by
  repeat' (first
    | (with_reducible apply Given.mk; intro h; (try exact absurd h (by decide)))
    | ((conv => whnf); with_reducible apply Both.mk))
  all_goals first
    | (with_reducible apply Ob.mk; decide)
    | ((conv => whnf); (with_reducible apply Ob.mk); exact rfl)
set_option maxRecDepth 100000 in
theorem nm_2 : NmF 2#8 := by
  repeat' (first
    | (with_reducible apply Given.mk; intro h; (try exact absurd h (by decide)))
    | ((conv => whnf); with_reducible apply Both.mk))
  all_goals first
    | (with_reducible apply Ob.mk; decide)
    | ((conv => whnf); (with_reducible apply Ob.mk); exact rfl)
set_option maxRecDepth 100000 in
theorem nm_3 : NmF 3#8 := by
  repeat' (first
    | (with_reducible apply Given.mk; intro h; (try exact absurd h (by decide)))
    | ((conv => whnf); with_reducible apply Both.mk))
  all_goals first
    | (with_reducible apply Ob.mk; decide)
    | ((conv => whnf); (with_reducible apply Ob.mk); exact rfl)
set_option maxRecDepth 100000 in
theorem nm_4 : NmF 4#8 := by
  repeat' (first
    | (with_reducible apply Given.mk; intro h; (try exact absurd h (by decide)))
    | ((conv => whnf); with_reducible apply Both.mk))
  all_goals first
    | (with_reducible apply Ob.mk; decide)
    | ((conv => whnf); (with_reducible apply Ob.mk); exact rfl)
set_option maxRecDepth 100000 in
theorem nm_5 : NmF 5#8 := by
  repeat' (first
    | (with_reducible apply Given.mk; intro h; (try exact absurd h (by decide)))
    | ((conv => whnf); with_reducible apply Both.mk))
  all_goals first
    | (with_reducible apply Ob.mk; decide)
    | ((conv => whnf); (with_reducible apply Ob.mk); exact rfl)
set_option maxRecDepth 100000 in
theorem nm_6 : NmF 6#8 := by
  repeat' (first
    | (with_reducible apply Given.mk; intro h; (try exact absurd h (by decide)))
    | ((conv => whnf); with_reducible apply Both.mk))
  all_goals first
    | (with_reducible apply Ob.mk; decide)
    | ((conv => whnf); (with_reducible apply Ob.mk); exact rfl)
set_option maxRecDepth 100000 in
theorem nm_7 : NmF 7#8 := by
  repeat' (first
    | (with_reducible apply Given.mk; intro h; (try exact absurd h (by decide)))
    | ((conv => whnf); with_reducible apply Both.mk))
  all_goals first
    | (with_reducible apply Ob.mk; decide)
    | ((conv => whnf); (with_reducible apply Ob.mk); exact rfl)
set_option maxRecDepth 100000 in
theorem nm_8 : NmF 8#8 := by
  repeat' (first
    | (with_reducible apply Given.mk; intro h; (try exact absurd h (by decide)))
    | ((conv => whnf); with_reducible apply Both.mk))
  all_goals first
    | (with_reducible apply Ob.mk; decide)
    | ((conv => whnf); (with_reducible apply Ob.mk); exact rfl)
set_option maxRecDepth 100000 in
theorem nm_9 : NmF 9#8 := by
  repeat' (first
    | (with_reducible apply Given.mk; intro h; (try exact absurd h (by decide)))
    | ((conv => whnf); with_reducible apply Both.mk))
  all_goals first
    | (with_reducible apply Ob.mk; decide)
    | ((conv => whnf); (with_reducible apply Ob.mk); exact rfl)
set_option maxRecDepth 100000 in
theorem nm_10 : NmF 10#8 := by
  repeat' (first
    | (with_reducible apply Given.mk; intro h; (try exact absurd h (by decide)))
    | ((conv => whnf); with_reducible apply Both.mk))
  all_goals first
    | (with_reducible apply Ob.mk; decide)
    | ((conv => whnf); (with_reducible apply Ob.mk); exact rfl)
set_option maxRecDepth 100000 in
theorem nm_11 : NmF 11#8 := by
  repeat' (first
    | (with_reducible apply Given.mk; intro h; (try exact absurd h (by decide)))
    | ((conv => whnf); with_reducible apply Both.mk))
  all_goals first
    | (with_reducible apply Ob.mk; decide)
    | ((conv => whnf); (with_reducible apply Ob.mk); exact rfl)
set_option maxRecDepth 100000 in
theorem nm_12 : NmF 12#8 := by
  repeat' (first
    | (with_reducible apply Given.mk; intro h; (try exact absurd h (by decide)))
    | ((conv => whnf); with_reducible apply Both.mk))
  all_goals first
    | (with_reducible apply Ob.mk; decide)
    | ((conv => whnf); (with_reducible apply Ob.mk); exact rfl)
set_option maxRecDepth 100000 in
theorem nm_13 : NmF 13#8 := by
  repeat' (first
    | (with_reducible apply Given.mk; intro h; (try exact absurd h (by decide)))
    | ((conv => whnf); with_reducible apply Both.mk))
  all_goals first
    | (with_reducible apply Ob.mk; decide)
    | ((conv => whnf); (with_reducible apply Ob.mk); exact rfl)
set_option maxRecDepth 100000 in
theorem nm_14 : NmF 14#8 := by
  repeat' (first
    | (with_reducible apply Given.mk; intro h; (try exact absurd h (by decide)))
    | ((conv => whnf); with_reducible apply Both.mk))
  all_goals first
    | (with_reducible apply Ob.mk; decide)
    | ((conv => whnf); (with_reducible apply Ob.mk); exact rfl)
set_option maxRecDepth 100000 in
theorem nm_15 : NmF 15#8 := by
  repeat' (first
    | (with_reducible apply Given.mk; intro h; (try exact absurd h (by decide)))
    | ((conv => whnf); with_reducible apply Both.mk))
  all_goals first
    | (with_reducible apply Ob.mk; decide)
    | ((conv => whnf); (with_reducible apply Ob.mk); exact rfl)
set_option maxRecDepth 100000 in
theorem nmr_0 {b : Nat} (h : b < 16) : NmF (BitVec.ofNat 8 (0 + b)) := by
  rcases b16 h with rfl | rfl | rfl | rfl | rfl | rfl | rfl | rfl | rfl | rfl | rfl | rfl | rfl | rfl | rfl | rfl
  · exact nm_0
  · exact nm_1
  · exact nm_2
  · exact nm_3
  · exact nm_4
  · exact nm_5
  · exact nm_6
  · exact nm_7
  · exact nm_8
  · exact nm_9
  · exact nm_10
  · exact nm_11
  · exact nm_12
  · exact nm_13
  · exact nm_14
  · exact nm_15
set_option maxRecDepth 100000 in
theorem nm_16 : NmF 16#8 := by
  repeat' (first
    | (with_reducible apply Given.mk; intro h; (try exact absurd h (by decide)))
    | ((conv => whnf); with_reducible apply Both.mk))
  all_goals first
    | (with_reducible apply Ob.mk; decide)
    | ((conv => whnf); (with_reducible apply Ob.mk); exact rfl)
set_option maxRecDepth 100000 in
theorem nm_17 : NmF 17#8 := by
  repeat' (first
    | (with_reducible apply Given.mk; intro h; (try exact absurd h (by decide)))
    | ((conv => whnf); with_reducible apply Both.mk))
  all_goals first
    | (with_reducible apply Ob.mk; decide)
    | ((conv => whnf); (with_reducible apply Ob.mk); exact rfl)
set_option maxRecDepth 100000 in
theorem nm_18 : NmF 18#8 := by
  repeat' (first
    | (with_reducible apply Given.mk; intro h; (try exact absurd h (by decide)))
    | ((conv => whnf); with_reducible apply Both.mk))
  all_goals first
    | (with_reducible apply Ob.mk; decide)
    | ((conv => whnf); (with_reducible apply Ob.mk); exact rfl)
set_option maxRecDepth 100000 in
theorem nm_19 : NmF 19#8 := by
  repeat' (first
    | (with_reducible apply Given.mk; intro h; (try exact absurd h (by decide)))
    | ((conv => whnf); with_reducible apply Both.mk))
  all_goals first
    | (with_reducible apply Ob.mk; decide)
    | ((conv => whnf); (with_reducible apply Ob.mk); exact rfl)
set_option maxRecDepth 100000 in
theorem nm_20 : NmF 20#8 := by
  repeat' (first
    | (with_reducible apply Given.mk; intro h; (try exact absurd h (by decide)))
    | ((conv => whnf); with_reducible apply Both.mk))
  all_goals first
    | (with_reducible apply Ob.mk; decide)
    | ((conv => whnf); (with_reducible apply Ob.mk); exact rfl)
set_option maxRecDepth 100000 in
theorem nm_21 : NmF 21#8 := by
  repeat' (first
    | (with_reducible apply Given.mk; intro h; (try exact absurd h (by decide)))
    | ((conv => whnf); with_reducible apply Both.mk))
  all_goals first
    | (with_reducible apply Ob.mk; decide)
    | ((conv => whnf); (with_reducible apply Ob.mk); exact rfl)
set_option maxRecDepth 100000 in
theorem nm_22 : NmF 22#8 := by
  repeat' (first
    | (with_reducible apply Given.mk; intro h; (try exact absurd h (by decide)))
    | ((conv => whnf); with_reducible apply Both.mk))
  all_goals first
    | (with_reducible apply Ob.mk; decide)
    | ((conv => whnf); (with_reducible apply Ob.mk); exact rfl)
set_option maxRecDepth 100000 in
theorem nm_23 : NmF 23#8 := by
  repeat' (first
    | (with_reducible apply Given.mk; intro h; (try exact absurd h (by decide)))
    | ((conv => whnf); with_reducible apply Both.mk))
  all_goals first
    | (with_reducible apply Ob.mk; decide)
    | ((conv => whnf); (with_reducible apply Ob.mk); exact rfl)
set_option maxRecDepth 100000 in
theorem nm_24 : NmF 24#8 := by
  repeat' (first
    | (with_reducible apply Given.mk; intro h; (try exact absurd h (by decide)))
    | ((conv => whnf); with_reducible apply Both.mk))
  all_goals first
    | (with_reducible apply Ob.mk; decide)
    | ((conv => whnf); (with_reducible apply Ob.mk); exact rfl)
set_option maxRecDepth 100000 in
theorem nm_25 : NmF 25#8 := by
  repeat' (first
    | (with_reducible apply Given.mk; intro h; (try exact absurd h (by decide)))
    | ((conv => whnf); with_reducible apply Both.mk))
  all_goals first
    | (with_reducible apply Ob.mk; decide)
    | ((conv => whnf); (with_reducible apply Ob.mk); exact rfl)
set_option maxRecDepth 100000 in
theorem nm_26 : NmF 26#8 := by
  repeat' (first
    | (with_reducible apply Given.mk; intro h; (try exact absurd h (by decide)))
    | ((conv => whnf); with_reducible apply Both.mk))
  all_goals first
    | (with_reducible apply Ob.mk; decide)
    | ((conv => whnf); (with_reducible apply Ob.mk); exact rfl)
set_option maxRecDepth 100000 in
theorem nm_27 : NmF 27#8 := by
  repeat' (first
    | (with_reducible apply Given.mk; intro h; (try exact absurd h (by decide)))
    | ((conv => whnf); with_reducible apply Both.mk))
  all_goals first
    | (with_reducible apply Ob.mk; decide)
    | ((conv => whnf); (with_reducible apply Ob.mk); exact rfl)
set_option maxRecDepth 100000 in
theorem nm_28 : NmF 28#8 := by
  repeat' (first
    | (with_reducible apply Given.mk; intro h; (try exact absurd h (by decide)))
    | ((conv => whnf); with_reducible apply Both.mk))
  all_goals first
    | (with_reducible apply Ob.mk; decide)
    | ((conv => whnf); (with_reducible apply Ob.mk); exact rfl)
set_option maxRecDepth 100000 in
theorem nm_29 : NmF 29#8 := by
  repeat' (first
    | (with_reducible apply Given.mk; intro h; (try exact absurd h (by decide)))
    | ((conv => whnf); with_reducible apply Both.mk))
  all_goals first
    | (with_reducible apply Ob.mk; decide)
    | ((conv => whnf); (with_reducible apply Ob.mk); exact rfl)
set_option maxRecDepth 100000 in
theorem nm_30 : NmF 30#8 := by
  repeat' (first
    | (with_reducible apply Given.mk; intro h; (try exact absurd h (by decide)))
    | ((conv => whnf); with_reducible apply Both.mk))
  all_goals first
    | (with_reducible apply Ob.mk; decide)
    | ((conv => whnf); (with_reducible apply Ob.mk); exact rfl)
set_option maxRecDepth 100000 in
theorem nm_31 : NmF 31#8 := by
  repeat' (first
    | (with_reducible apply Given.mk; intro h; (try exact absurd h (by decide)))
    | ((conv => whnf); with_reducible apply Both.mk))
  all_goals first
    | (with_reducible apply Ob.mk; decide)
    | ((conv => whnf); (with_reducible apply Ob.mk); exact rfl)
set_option maxRecDepth 100000 in
theorem nmr_1 {b : Nat} (h : b < 16) : NmF (BitVec.ofNat 8 (16 + b)) := by
  rcases b16 h with rfl | rfl | rfl | rfl | rfl | rfl | rfl | rfl | rfl | rfl | rfl | rfl | rfl | rfl | rfl | rfl
  · exact nm_16
  · exact nm_17
  · exact nm_18
  · exact nm_19
  · exact nm_20
  · exact nm_21
  · exact nm_22
  · exact nm_23
  · exact nm_24
  · exact nm_25
  · exact nm_26
  · exact nm_27
  · exact nm_28
  · exact nm_29
  · exact nm_30
  · exact nm_31
set_option maxRecDepth 100000 in
theorem nm_32 : NmF 32#8 := by
  repeat' (first
    | (with_reducible apply Given.mk; intro h; (try exact absurd h (by decide)))
    | ((conv => whnf); with_reducible apply Both.mk))
  all_goals first
    | (with_reducible apply Ob.mk; decide)
    | ((conv => whnf); (with_reducible apply Ob.mk); exact rfl)
set_option maxRecDepth 100000 in
theorem nm_33 : NmF 33#8 := by
  repeat' (first
    | (with_reducible apply Given.mk; intro h; (try exact absurd h (by decide)))
    | ((conv => whnf); with_reducible apply Both.mk))
  all_goals first
    | (with_reducible apply Ob.mk; decide)
    | ((conv => whnf); (with_reducible apply Ob.mk); exact rfl)
set_option maxRecDepth 100000 in
theorem nm_34 : NmF 34#8 := by
  repeat' (first
    | (with_reducible apply Given.mk; intro h; (try exact absurd h (by decide)))
    | ((conv => whnf); with_reducible apply Both.mk))
  all_goals first
    | (with_reducible apply Ob.mk; decide)
    | ((conv => whnf); (with_reducible apply Ob.mk); exact rfl)
set_option maxRecDepth 100000 in
theorem nm_35 : NmF 35#8 := by
  repeat' (first
    | (with_reducible apply Given.mk; intro h; (try exact absurd h (by decide)))
    | ((conv => whnf); with_reducible apply Both.mk))
  all_goals first
    | (with_reducible apply Ob.mk; decide)
    | ((conv => whnf); (with_reducible apply Ob.mk); exact rfl)
set_option maxRecDepth 100000 in
theorem nm_36 : NmF 36#8 := by
  repeat' (first
    | (with_reducible apply Given.mk; intro h; (try exact absurd h (by decide)))
    | ((conv => whnf); with_reducible apply Both.mk))
  all_goals first
    | (with_reducible apply Ob.mk; decide)
    | ((conv => whnf); (with_reducible apply Ob.mk); exact rfl)
set_option maxRecDepth 100000 in
theorem nm_37 : NmF 37#8 := by
  repeat' (first
    | (with_reducible apply Given.mk; intro h; (try exact absurd h (by decide)))
    | ((conv => whnf); with_reducible apply Both.mk))
  all_goals first
    | (with_reducible apply Ob.mk; decide)
    | ((conv => whnf); (with_reducible apply Ob.mk); exact rfl)
set_option maxRecDepth 100000 in
theorem nm_38 : NmF 38#8 := by
  repeat' (first
    | (with_reducible apply Given.mk; intro h; (try exact absurd h (by decide)))
    | ((conv => whnf); with_reducible apply Both.mk))
  all_goals first
    | (with_reducible apply Ob.mk; decide)
    | ((conv => whnf); (with_reducible apply Ob.mk); exact rfl)
set_option maxRecDepth 100000 in
theorem nm_39 : NmF 39#8 := by
  repeat' (first
    | (with_reducible apply Given.mk; intro h; (try exact absurd h (by decide)))
    | ((conv => whnf); with_reducible apply Both.mk))
  all_goals first
    | (with_reducible apply Ob.mk; decide)
    | ((conv => whnf); (with_reducible apply Ob.mk); exact rfl)
set_option maxRecDepth 100000 in
theorem nm_40 : NmF 40#8 := by
  repeat' (first
    | (with_reducible apply Given.mk; intro h; (try exact absurd h (by decide)))
    | ((conv => whnf); with_reducible apply Both.mk))
  all_goals first
    | (with_reducible apply Ob.mk; decide)
    | ((conv => whnf); (with_reducible apply Ob.mk); exact rfl)
set_option maxRecDepth 100000 in
theorem nm_41 : NmF 41#8 := by
  repeat' (first
    | (with_reducible apply Given.mk; intro h; (try exact absurd h (by decide)))
    | ((conv => whnf); with_reducible apply Both.mk))
  all_goals first
    | (with_reducible apply Ob.mk; decide)
    | ((conv => whnf); (with_reducible apply Ob.mk); exact rfl)
set_option maxRecDepth 100000 in
theorem nm_42 : NmF 42#8 := by
  repeat' (first
    | (with_reducible apply Given.mk; intro h; (try exact absurd h (by decide)))
    | ((conv => whnf); with_reducible apply Both.mk))
  all_goals first
    | (with_reducible apply Ob.mk; decide)
    | ((conv => whnf); (with_reducible apply Ob.mk); exact rfl)
set_option maxRecDepth 100000 in
theorem nm_43 : NmF 43#8 := by
  repeat' (first
    | (with_reducible apply Given.mk; intro h; (try exact absurd h (by decide)))
    | ((conv => whnf); with_reducible apply Both.mk))
  all_goals first
    | (with_reducible apply Ob.mk; decide)
    | ((conv => whnf); (with_reducible apply Ob.mk); exact rfl)
set_option maxRecDepth 100000 in
theorem nm_44 : NmF 44#8 := by
  repeat' (first
    | (with_reducible apply Given.mk; intro h; (try exact absurd h (by decide)))
    | ((conv => whnf); with_reducible apply Both.mk))
  all_goals first
    | (with_reducible apply Ob.mk; decide)
    | ((conv => whnf); (with_reducible apply Ob.mk); exact rfl)
set_option maxRecDepth 100000 in
theorem nm_45 : NmF 45#8 := by
  repeat' (first
    | (with_reducible apply Given.mk; intro h; (try exact absurd h (by decide)))
    | ((conv => whnf); with_reducible apply Both.mk))
  all_goals first
    | (with_reducible apply Ob.mk; decide)
    | ((conv => whnf); (with_reducible apply Ob.mk); exact rfl)
set_option maxRecDepth 100000 in
theorem nm_46 : NmF 46#8 := by
  repeat' (first
    | (with_reducible apply Given.mk; intro h; (try exact absurd h (by decide)))
    | ((conv => whnf); with_reducible apply Both.mk))
  all_goals first
    | (with_reducible apply Ob.mk; decide)
    | ((conv => whnf); (with_reducible apply Ob.mk); exact rfl)
set_option maxRecDepth 100000 in
theorem nm_47 : NmF 47#8 := by
  repeat' (first
    | (with_reducible apply Given.mk; intro h; (try exact absurd h (by decide)))
    | ((conv => whnf); with_reducible apply Both.mk))
  all_goals first
    | (with_reducible apply Ob.mk; decide)
    | ((conv => whnf); (with_reducible apply Ob.mk); exact rfl)
set_option maxRecDepth 100000 in
theorem nmr_2 {b : Nat} (h : b < 16) : NmF (BitVec.ofNat 8 (32 + b)) := by
  rcases b16 h with rfl | rfl | rfl | rfl | rfl | rfl | rfl | rfl | rfl | rfl | rfl | rfl | rfl | rfl | rfl | rfl
  · exact nm_32
  · exact nm_33
  · exact nm_34
  · exact nm_35
  · exact nm_36
  · exact nm_37
  · exact nm_38
  · exact nm_39
  · exact nm_40
  · exact nm_41
  · exact nm_42
  · exact nm_43
  · exact nm_44
  · exact nm_45
  · exact nm_46
  · exact nm_47
set_option maxRecDepth 100000 in
theorem nm_48 : NmF 48#8 := by
  repeat' (first
    | (with_reducible apply Given.mk; intro h; (try exact absurd h (by decide)))
    | ((conv => whnf); with_reducible apply Both.mk))
  all_goals first
    | (with_reducible apply Ob.mk; decide)
    | ((conv => whnf); (with_reducible apply Ob.mk); exact rfl)
set_option maxRecDepth 100000 in
theorem nm_49 : NmF 49#8 := by
  repeat' (first
    | (with_reducible apply Given.mk; intro h; (try exact absurd h (by decide)))
    | ((conv => whnf); with_reducible apply Both.mk))
  all_goals first
    | (with_reducible apply Ob.mk; decide)
    | ((conv => whnf); (with_reducible apply Ob.mk); exact rfl)
set_option maxRecDepth 100000 in
theorem nm_50 : NmF 50#8 := by
  repeat' (first
    | (with_reducible apply Given.mk; intro h; (try exact absurd h (by decide)))
    | ((conv => whnf); with_reducible apply Both.mk))
  all_goals first
    | (with_reducible apply Ob.mk; decide)
    | ((conv => whnf); (with_reducible apply Ob.mk); exact rfl)
set_option maxRecDepth 100000 in
theorem nm_51 : NmF 51#8 := by
  repeat' (first
    | (with_reducible apply Given.mk; intro h; (try exact absurd h (by decide)))
    | ((conv => whnf); with_reducible apply Both.mk))
  all_goals first
    | (with_reducible apply Ob.mk; decide)
    | ((conv => whnf); (with_reducible apply Ob.mk); exact rfl)
set_option maxRecDepth 100000 in
theorem nm_52 : NmF 52#8 := by
  repeat' (first
    | (with_reducible apply Given.mk; intro h; (try exact absurd h (by decide)))
    | ((conv => whnf); with_reducible apply Both.mk))
  all_goals first
    | (with_reducible apply Ob.mk; decide)
    | ((conv => whnf); (with_reducible apply Ob.mk); exact rfl)
set_option maxRecDepth 100000 in
theorem nm_53 : NmF 53#8 := by
  repeat' (first
    | (with_reducible apply Given.mk; intro h; (try exact absurd h (by decide)))
    | ((conv => whnf); with_reducible apply Both.mk))
  all_goals first
    | (with_reducible apply Ob.mk; decide)
    | ((conv => whnf); (with_reducible apply Ob.mk); exact rfl)
set_option maxRecDepth 100000 in
theorem nm_54 : NmF 54#8 := by
  repeat' (first
    | (with_reducible apply Given.mk; intro h; (try exact absurd h (by decide)))
    | ((conv => whnf); with_reducible apply Both.mk))
  all_goals first
    | (with_reducible apply Ob.mk; decide)
    | ((conv => whnf); (with_reducible apply Ob.mk); exact rfl)
set_option maxRecDepth 100000 in
theorem nm_55 : NmF 55#8 := by
  repeat' (first
    | (with_reducible apply Given.mk; intro h; (try exact absurd h (by decide)))
    | ((conv => whnf); with_reducible apply Both.mk))
  all_goals first
    | (with_reducible apply Ob.mk; decide)
    | ((conv => whnf); (with_reducible apply Ob.mk); exact rfl)
set_option maxRecDepth 100000 in
theorem nm_56 : NmF 56#8 := by
  repeat' (first
    | (with_reducible apply Given.mk; intro h; (try exact absurd h (by decide)))
    | ((conv => whnf); with_reducible apply Both.mk))
  all_goals first
    | (with_reducible apply Ob.mk; decide)
    | ((conv => whnf); (with_reducible apply Ob.mk); exact rfl)
set_option maxRecDepth 100000 in
theorem nm_57 : NmF 57#8 := by
  repeat' (first
    | (with_reducible apply Given.mk; intro h; (try exact absurd h (by decide)))
    | ((conv => whnf); with_reducible apply Both.mk))
  all_goals first
    | (with_reducible apply Ob.mk; decide)
    | ((conv => whnf); (with_reducible apply Ob.mk); exact rfl)
set_option maxRecDepth 100000 in
theorem nm_58 : NmF 58#8 := by
  repeat' (first
    | (with_reducible apply Given.mk; intro h; (try exact absurd h (by decide)))
    | ((conv => whnf); with_reducible apply Both.mk))
  all_goals first
    | (with_reducible apply Ob.mk; decide)
    | ((conv => whnf); (with_reducible apply Ob.mk); exact rfl)
set_option maxRecDepth 100000 in
theorem nm_59 : NmF 59#8 := by
  repeat' (first
    | (with_reducible apply Given.mk; intro h; (try exact absurd h (by decide)))
    | ((conv => whnf); with_reducible apply Both.mk))
  all_goals first
    | (with_reducible apply Ob.mk; decide)
    | ((conv => whnf); (with_reducible apply Ob.mk); exact rfl)
set_option maxRecDepth 100000 in
theorem nm_60 : NmF 60#8 := by
  repeat' (first
    | (with_reducible apply Given.mk; intro h; (try exact absurd h (by decide)))
    | ((conv => whnf); with_reducible apply Both.mk))
  all_goals first
    | (with_reducible apply Ob.mk; decide)
    | ((conv => whnf); (with_reducible apply Ob.mk); exact rfl)
set_option maxRecDepth 100000 in
theorem nm_61 : NmF 61#8 := by
  repeat' (first
    | (with_reducible apply Given.mk; intro h; (try exact absurd h (by decide)))
    | ((conv => whnf); with_reducible apply Both.mk))
  all_goals first
    | (with_reducible apply Ob.mk; decide)
    | ((conv => whnf); (with_reducible apply Ob.mk); exact rfl)
set_option maxRecDepth 100000 in
theorem nm_62 : NmF 62#8 := by
  repeat' (first
    | (with_reducible apply Given.mk; intro h; (try exact absurd h (by decide)))
    | ((conv => whnf); with_reducible apply Both.mk))
  all_goals first
    | (with_reducible apply Ob.mk; decide)
    | ((conv => whnf); (with_reducible apply Ob.mk); exact rfl)
set_option maxRecDepth 100000 in
theorem nm_63 : NmF 63#8 := by
  repeat' (first
    | (with_reducible apply Given.mk; intro h; (try exact absurd h (by decide)))
    | ((conv => whnf); with_reducible apply Both.mk))
  all_goals first
    | (with_reducible apply Ob.mk; decide)
    | ((conv => whnf); (with_reducible apply Ob.mk); exact rfl)
set_option maxRecDepth 100000 in
theorem nmr_3 {b : Nat} (h : b < 16) : NmF (BitVec.ofNat 8 (48 + b)) := by
  rcases b16 h with rfl | rfl | rfl | rfl | rfl | rfl | rfl | rfl | rfl | rfl | rfl | rfl | rfl | rfl | rfl | rfl
  · exact nm_48
  · exact nm_49
  · exact nm_50
  · exact nm_51
  · exact nm_52
  · exact nm_53
  · exact nm_54
  · exact nm_55
  · exact nm_56
  · exact nm_57
  · exact nm_58
  · exact nm_59
  · exact nm_60
  · exact nm_61
  · exact nm_62
  · exact nm_63
set_option maxRecDepth 100000 in
theorem nm_64 : NmF 64#8 := by
  repeat' (first
    | (with_reducible apply Given.mk; intro h; (try exact absurd h (by decide)))
    | ((conv => whnf); with_reducible apply Both.mk))
  all_goals first
    | (with_reducible apply Ob.mk; decide)
    | ((conv => whnf); (with_reducible apply Ob.mk); exact rfl)
set_option maxRecDepth 100000 in
theorem nm_65 : NmF 65#8 := by
  repeat' (first
    | (with_reducible apply Given.mk; intro h; (try exact absurd h (by decide)))
    | ((conv => whnf); with_reducible apply Both.mk))
  all_goals first
    | (with_reducible apply Ob.mk; decide)
    | ((conv => whnf); (with_reducible apply Ob.mk); exact rfl)
set_option maxRecDepth 100000 in
theorem nm_66 : NmF 66#8 := by
  repeat' (first
    | (with_reducible apply Given.mk; intro h; (try exact absurd h (by decide)))
    | ((conv => whnf); with_reducible apply Both.mk))
  all_goals first
    | (with_reducible apply Ob.mk; decide)
    | ((conv => whnf); (with_reducible apply Ob.mk); exact rfl)
set_option maxRecDepth 100000 in
theorem nm_67 : NmF 67#8 := by
  repeat' (first
    | (with_reducible apply Given.mk; intro h; (try exact absurd h (by decide)))
    | ((conv => whnf); with_reducible apply Both.mk))
  all_goals first
    | (with_reducible apply Ob.mk; decide)
    | ((conv => whnf); (with_reducible apply Ob.mk); exact rfl)
set_option maxRecDepth 100000 in
theorem nm_68 : NmF 68#8 := by
  repeat' (first
    | (with_reducible apply Given.mk; intro h; (try exact absurd h (by decide)))
    | ((conv => whnf); with_reducible apply Both.mk))
  all_goals first
    | (with_reducible apply Ob.mk; decide)
    | ((conv => whnf); (with_reducible apply Ob.mk); exact rfl)
set_option maxRecDepth 100000 in
theorem nm_69 : NmF 69#8 := by
  repeat' (first
    | (with_reducible apply Given.mk; intro h; (try exact absurd h (by decide)))
    | ((conv => whnf); with_reducible apply Both.mk))
  all_goals first
    | (with_reducible apply Ob.mk; decide)
    | ((conv => whnf); (with_reducible apply Ob.mk); exact rfl)
set_option maxRecDepth 100000 in
theorem nm_70 : NmF 70#8 := by
  repeat' (first
    | (with_reducible apply Given.mk; intro h; (try exact absurd h (by decide)))
    | ((conv => whnf); with_reducible apply Both.mk))
  all_goals first
    | (with_reducible apply Ob.mk; decide)
    | ((conv => whnf); (with_reducible apply Ob.mk); exact rfl)
set_option maxRecDepth 100000 in
theorem nm_71 : NmF 71#8 := by
  repeat' (first
    | (with_reducible apply Given.mk; intro h; (try exact absurd h (by decide)))
    | ((conv => whnf); with_reducible apply Both.mk))
  all_goals first
    | (with_reducible apply Ob.mk; decide)
    | ((conv => whnf); (with_reducible apply Ob.mk); exact rfl)
set_option maxRecDepth 100000 in
theorem nm_72 : NmF 72#8 := by
  repeat' (first
    | (with_reducible apply Given.mk; intro h; (try exact absurd h (by decide)))
    | ((conv => whnf); with_reducible apply Both.mk))
  all_goals first
    | (with_reducible apply Ob.mk; decide)
    | ((conv => whnf); (with_reducible apply Ob.mk); exact rfl)
set_option maxRecDepth 100000 in
theorem nm_73 : NmF 73#8 := by
  repeat' (first
    | (with_reducible apply Given.mk; intro h; (try exact absurd h (by decide)))
    | ((conv => whnf); with_reducible apply Both.mk))
  all_goals first
    | (with_reducible apply Ob.mk; decide)
    | ((conv => whnf); (with_reducible apply Ob.mk); exact rfl)
set_option maxRecDepth 100000 in
theorem nm_74 : NmF 74#8 := by
  repeat' (first
    | (with_reducible apply Given.mk; intro h; (try exact absurd h (by decide)))
    | ((conv => whnf); with_reducible apply Both.mk))
  all_goals first
    | (with_reducible apply Ob.mk; decide)
    | ((conv => whnf); (with_reducible apply Ob.mk); exact rfl)
set_option maxRecDepth 100000 in
theorem nm_75 : NmF 75#8 := by
  repeat' (first
    | (with_reducible apply Given.mk; intro h; (try exact absurd h (by decide)))
    | ((conv => whnf); with_reducible apply Both.mk))
  all_goals first
    | (with_reducible apply Ob.mk; decide)
    | ((conv => whnf); (with_reducible apply Ob.mk); exact rfl)
set_option maxRecDepth 100000 in
theorem nm_76 : NmF 76#8 := by
  repeat' (first
    | (with_reducible apply Given.mk; intro h; (try exact absurd h (by decide)))
    | ((conv => whnf); with_reducible apply Both.mk))
  all_goals first
    | (with_reducible apply Ob.mk; decide)
    | ((conv => whnf); (with_reducible apply Ob.mk); exact rfl)
set_option maxRecDepth 100000 in
theorem nm_77 : NmF 77#8 := by
  repeat' (first
    | (with_reducible apply Given.mk; intro h; (try exact absurd h (by decide)))
    | ((conv => whnf); with_reducible apply Both.mk))
  all_goals first
    | (with_reducible apply Ob.mk; decide)
    | ((conv => whnf); (with_reducible apply Ob.mk); exact rfl)
set_option maxRecDepth 100000 in
theorem nm_78 : NmF 78#8 := by
  repeat' (first
    | (with_reducible apply Given.mk; intro h; (try exact absurd h (by decide)))
    | ((conv => whnf); with_reducible apply Both.mk))
  all_goals first
    | (with_reducible apply Ob.mk; decide)
    | ((conv => whnf); (with_reducible apply Ob.mk); exact rfl)
set_option maxRecDepth 100000 in
theorem nm_79 : NmF 79#8 := by
  repeat' (first
    | (with_reducible apply Given.mk; intro h; (try exact absurd h (by decide)))
    | ((conv => whnf); with_reducible apply Both.mk))
  all_goals first
    | (with_reducible apply Ob.mk; decide)
    | ((conv => whnf); (with_reducible apply Ob.mk); exact rfl)
set_option maxRecDepth 100000 in
theorem nmr_4 {b : Nat} (h : b < 16) : NmF (BitVec.ofNat 8 (64 + b)) := by
  rcases b16 h with rfl | rfl | rfl | rfl | rfl | rfl | rfl | rfl | rfl | rfl | rfl | rfl | rfl | rfl | rfl | rfl
  · exact nm_64
  · exact nm_65
  · exact nm_66
  · exact nm_67
  · exact nm_68
  · exact nm_69
  · exact nm_70
  · exact nm_71
  · exact nm_72
  · exact nm_73
  · exact nm_74
  · exact nm_75
  · exact nm_76
  · exact nm_77
  · exact nm_78
  · exact nm_79
set_option maxRecDepth 100000 in
theorem nm_80 : NmF 80#8 := by
  repeat' (first
    | (with_reducible apply Given.mk; intro h; (try exact absurd h (by decide)))
    | ((conv => whnf); with_reducible apply Both.mk))
  all_goals first
    | (with_reducible apply Ob.mk; decide)
    | ((conv => whnf); (with_reducible apply Ob.mk); exact rfl)
set_option maxRecDepth 100000 in
theorem nm_81 : NmF 81#8 := by
  repeat' (first
    | (with_reducible apply Given.mk; intro h; (try exact absurd h (by decide)))
    | ((conv => whnf); with_reducible apply Both.mk))
  all_goals first
    | (with_reducible apply Ob.mk; decide)
    | ((conv => whnf); (with_reducible apply Ob.mk); exact rfl)
set_option maxRecDepth 100000 in
theorem nm_82 : NmF 82#8 := by
  repeat' (first
    | (with_reducible apply Given.mk; intro h; (try exact absurd h (by decide)))
    | ((conv => whnf); with_reducible apply Both.mk))
  all_goals first
    | (with_reducible apply Ob.mk; decide)
    | ((conv => whnf); (with_reducible apply Ob.mk); exact rfl)
set_option maxRecDepth 100000 in
theorem nm_83 : NmF 83#8 := by
  repeat' (first
    | (with_reducible apply Given.mk; intro h; (try exact absurd h (by decide)))
    | ((conv => whnf); with_reducible apply Both.mk))
  all_goals first
    | (with_reducible apply Ob.mk; decide)
    | ((conv => whnf); (with_reducible apply Ob.mk); exact rfl)
set_option maxRecDepth 100000 in
theorem nm_84 : NmF 84#8 := by
  repeat' (first
    | (with_reducible apply Given.mk; intro h; (try exact absurd h (by decide)))
    | ((conv => whnf); with_reducible apply Both.mk))
  all_goals first
    | (with_reducible apply Ob.mk; decide)
    | ((conv => whnf); (with_reducible apply Ob.mk); exact rfl)
set_option maxRecDepth 100000 in
theorem nm_85 : NmF 85#8 := by
  repeat' (first
    | (with_reducible apply Given.mk; intro h; (try exact absurd h (by decide)))
    | ((conv => whnf); with_reducible apply Both.mk))
  all_goals first
    | (with_reducible apply Ob.mk; decide)
    | ((conv => whnf); (with_reducible apply Ob.mk); exact rfl)
set_option maxRecDepth 100000 in
theorem nm_86 : NmF 86#8 := by
  repeat' (first
    | (with_reducible apply Given.mk; intro h; (try exact absurd h (by decide)))
    | ((conv => whnf); with_reducible apply Both.mk))
  all_goals first
    | (with_reducible apply Ob.mk; decide)
    | ((conv => whnf); (with_reducible apply Ob.mk); exact rfl)
set_option maxRecDepth 100000 in
theorem nm_87 : NmF 87#8 := by
  repeat' (first
    | (with_reducible apply Given.mk; intro h; (try exact absurd h (by decide)))
    | ((conv => whnf); with_reducible apply Both.mk))
  all_goals first
    | (with_reducible apply Ob.mk; decide)
    | ((conv => whnf); (with_reducible apply Ob.mk); exact rfl)
set_option maxRecDepth 100000 in
theorem nm_88 : NmF 88#8 := by
  repeat' (first
    | (with_reducible apply Given.mk; intro h; (try exact absurd h (by decide)))
    | ((conv => whnf); with_reducible apply Both.mk))
  all_goals first
    | (with_reducible apply Ob.mk; decide)
    | ((conv => whnf); (with_reducible apply Ob.mk); exact rfl)
set_option maxRecDepth 100000 in
theorem nm_89 : NmF 89#8 := by
  repeat' (first
    | (with_reducible apply Given.mk; intro h; (try exact absurd h (by decide)))
    | ((conv => whnf); with_reducible apply Both.mk))
  all_goals first
    | (with_reducible apply Ob.mk; decide)
    | ((conv => whnf); (with_reducible apply Ob.mk); exact rfl)
set_option maxRecDepth 100000 in
theorem nm_90 : NmF 90#8 := by
  repeat' (first
    | (with_reducible apply Given.mk; intro h; (try exact absurd h (by decide)))
    | ((conv => whnf); with_reducible apply Both.mk))
  all_goals first
    | (with_reducible apply Ob.mk; decide)
    | ((conv => whnf); (with_reducible apply Ob.mk); exact rfl)
set_option maxRecDepth 100000 in
theorem nm_91 : NmF 91#8 := by
  repeat' (first
    | (with_reducible apply Given.mk; intro h; (try exact absurd h (by decide)))
    | ((conv => whnf); with_reducible apply Both.mk))
  all_goals first
    | (with_reducible apply Ob.mk; decide)
    | ((conv => whnf); (with_reducible apply Ob.mk); exact rfl)
set_option maxRecDepth 100000 in
theorem nm_92 : NmF 92#8 := by
  repeat' (first
    | (with_reducible apply Given.mk; intro h; (try exact absurd h (by decide)))
    | ((conv => whnf); with_reducible apply Both.mk))
  all_goals first
    | (with_reducible apply Ob.mk; decide)
    | ((conv => whnf); (with_reducible apply Ob.mk); exact rfl)
set_option maxRecDepth 100000 in
theorem nm_93 : NmF 93#8 := by
  repeat' (first
    | (with_reducible apply Given.mk; intro h; (try exact absurd h (by decide)))
    | ((conv => whnf); with_reducible apply Both.mk))
  all_goals first
    | (with_reducible apply Ob.mk; decide)
    | ((conv => whnf); (with_reducible apply Ob.mk); exact rfl)
set_option maxRecDepth 100000 in
theorem nm_94 : NmF 94#8 := by
  repeat' (first
    | (with_reducible apply Given.mk; intro h; (try exact absurd h (by decide)))
    | ((conv => whnf); with_reducible apply Both.mk))
  all_goals first
    | (with_reducible apply Ob.mk; decide)
    | ((conv => whnf); (with_reducible apply Ob.mk); exact rfl)
set_option maxRecDepth 100000 in
theorem nm_95 : NmF 95#8 := by
  repeat' (first
    | (with_reducible apply Given.mk; intro h; (try exact absurd h (by decide)))
    | ((conv => whnf); with_reducible apply Both.mk))
  all_goals first
    | (with_reducible apply Ob.mk; decide)
    | ((conv => whnf); (with_reducible apply Ob.mk); exact rfl)
set_option maxRecDepth 100000 in
theorem nmr_5 {b : Nat} (h : b < 16) : NmF (BitVec.ofNat 8 (80 + b)) := by
  rcases b16 h with rfl | rfl | rfl | rfl | rfl | rfl | rfl | rfl | rfl | rfl | rfl | rfl | rfl | rfl | rfl | rfl
  · exact nm_80
  · exact nm_81
  · exact nm_82
  · exact nm_83
  · exact nm_84
  · exact nm_85
  · exact nm_86
  · exact nm_87
  · exact nm_88
  · exact nm_89
  · exact nm_90
  · exact nm_91
  · exact nm_92
  · exact nm_93
  · exact nm_94
  · exact nm_95
set_option maxRecDepth 100000 in
theorem nm_96 : NmF 96#8 := by
  repeat' (first
    | (with_reducible apply Given.mk; intro h; (try exact absurd h (by decide)))
    | ((conv => whnf); with_reducible apply Both.mk))
  all_goals first
    | (with_reducible apply Ob.mk; decide)
    | ((conv => whnf); (with_reducible apply Ob.mk); exact rfl)
set_option maxRecDepth 100000 in
theorem nm_97 : NmF 97#8 := by
  repeat' (first
    | (with_reducible apply Given.mk; intro h; (try exact absurd h (by decide)))
    | ((conv => whnf); with_reducible apply Both.mk))
  all_goals first
    | (with_reducible apply Ob.mk; decide)
    | ((conv => whnf); (with_reducible apply Ob.mk); exact rfl)
set_option maxRecDepth 100000 in
theorem nm_98 : NmF 98#8 := by
  repeat' (first
    | (with_reducible apply Given.mk; intro h; (try exact absurd h (by decide)))
    | ((conv => whnf); with_reducible apply Both.mk))
  all_goals first
    | (with_reducible apply Ob.mk; decide)
    | ((conv => whnf); (with_reducible apply Ob.mk); exact rfl)
set_option maxRecDepth 100000 in
theorem nm_99 : NmF 99#8 := by
  repeat' (first
    | (with_reducible apply Given.mk; intro h; (try exact absurd h (by decide)))
    | ((conv => whnf); with_reducible apply Both.mk))
  all_goals first
    | (with_reducible apply Ob.mk; decide)
    | ((conv => whnf); (with_reducible apply Ob.mk); exact rfl)
set_option maxRecDepth 100000 in
theorem nm_100 : NmF 100#8 := by
  repeat' (first
    | (with_reducible apply Given.mk; intro h; (try exact absurd h (by decide)))
    | ((conv => whnf); with_reducible apply Both.mk))
  all_goals first
    | (with_reducible apply Ob.mk; decide)
    | ((conv => whnf); (with_reducible apply Ob.mk); exact rfl)
set_option maxRecDepth 100000 in
theorem nm_101 : NmF 101#8 := by
  repeat' (first
    | (with_reducible apply Given.mk; intro h; (try exact absurd h (by decide)))
    | ((conv => whnf); with_reducible apply Both.mk))
  all_goals first
    | (with_reducible apply Ob.mk; decide)
    | ((conv => whnf); (with_reducible apply Ob.mk); exact rfl)
set_option maxRecDepth 100000 in
theorem nm_102 : NmF 102#8 := by
  repeat' (first
    | (with_reducible apply Given.mk; intro h; (try exact absurd h (by decide)))
    | ((conv => whnf); with_reducible apply Both.mk))
  all_goals first
    | (with_reducible apply Ob.mk; decide)
    | ((conv => whnf); (with_reducible apply Ob.mk); exact rfl)
set_option maxRecDepth 100000 in
theorem nm_103 : NmF 103#8 := by
  repeat' (first
    | (with_reducible apply Given.mk; intro h; (try exact absurd h (by decide)))
    | ((conv => whnf); with_reducible apply Both.mk))
  all_goals first
    | (with_reducible apply Ob.mk; decide)
    | ((conv => whnf); (with_reducible apply Ob.mk); exact rfl)
set_option maxRecDepth 100000 in
theorem nm_104 : NmF 104#8 := by
  repeat' (first
    | (with_reducible apply Given.mk; intro h; (try exact absurd h (by decide)))
    | ((conv => whnf); with_reducible apply Both.mk))
  all_goals first
    | (with_reducible apply Ob.mk; decide)
    | ((conv => whnf); (with_reducible apply Ob.mk); exact rfl)
set_option maxRecDepth 100000 in
theorem nm_105 : NmF 105#8 := by
  repeat' (first
    | (with_reducible apply Given.mk; intro h; (try exact absurd h (by decide)))
    | ((conv => whnf); with_reducible apply Both.mk))
  all_goals first
    | (with_reducible apply Ob.mk; decide)
    | ((conv => whnf); (with_reducible apply Ob.mk); exact rfl)
set_option maxRecDepth 100000 in
theorem nm_106 : NmF 106#8 := by
  repeat' (first
    | (with_reducible apply Given.mk; intro h; (try exact absurd h (by decide)))
    | ((conv => whnf); with_reducible apply Both.mk))
  all_goals first
    | (with_reducible apply Ob.mk; decide)
    | ((conv => whnf); (with_reducible apply Ob.mk); exact rfl)
set_option maxRecDepth 100000 in
theorem nm_107 : NmF 107#8 := by
  repeat' (first
    | (with_reducible apply Given.mk; intro h; (try exact absurd h (by decide)))
    | ((conv => whnf); with_reducible apply Both.mk))
  all_goals first
    | (with_reducible apply Ob.mk; decide)
    | ((conv => whnf); (with_reducible apply Ob.mk); exact rfl)
set_option maxRecDepth 100000 in
theorem nm_108 : NmF 108#8 := by
  repeat' (first
    | (with_reducible apply Given.mk; intro h; (try exact absurd h (by decide)))
    | ((conv => whnf); with_reducible apply Both.mk))
  all_goals first
    | (with_reducible apply Ob.mk; decide)
    | ((conv => whnf); (with_reducible apply Ob.mk); exact rfl)
set_option maxRecDepth 100000 in
theorem nm_109 : NmF 109#8 := by
  repeat' (first
    | (with_reducible apply Given.mk; intro h; (try exact absurd h (by decide)))
    | ((conv => whnf); with_reducible apply Both.mk))
  all_goals first
    | (with_reducible apply Ob.mk; decide)
    | ((conv => whnf); (with_reducible apply Ob.mk); exact rfl)
set_option maxRecDepth 100000 in
theorem nm_110 : NmF 110#8 := by
  repeat' (first
    | (with_reducible apply Given.mk; intro h; (try exact absurd h (by decide)))
    | ((conv => whnf); with_reducible apply Both.mk))
  all_goals first
    | (with_reducible apply Ob.mk; decide)
    | ((conv => whnf); (with_reducible apply Ob.mk); exact rfl)
set_option maxRecDepth 100000 in
theorem nm_111 : NmF 111#8 := by
  repeat' (first
    | (with_reducible apply Given.mk; intro h; (try exact absurd h (by decide)))
    | ((conv => whnf); with_reducible apply Both.mk))
  all_goals first
    | (with_reducible apply Ob.mk; decide)
    | ((conv => whnf); (with_reducible apply Ob.mk); exact rfl)
set_option maxRecDepth 100000 in
theorem nmr_6 {b : Nat} (h : b < 16) : NmF (BitVec.ofNat 8 (96 + b)) := by
  rcases b16 h with rfl | rfl | rfl | rfl | rfl | rfl | rfl | rfl | rfl | rfl | rfl | rfl | rfl | rfl | rfl | rfl
  · exact nm_96
  · exact nm_97
  · exact nm_98
  · exact nm_99
  · exact nm_100
  · exact nm_101
  · exact nm_102
  · exact nm_103
  · exact nm_104
  · exact nm_105
  · exact nm_106
  · exact nm_107
  · exact nm_108
  · exact nm_109
  · exact nm_110
  · exact nm_111
set_option maxRecDepth 100000 in
theorem nm_112 : NmF 112#8 := by
  repeat' (first
    | (with_reducible apply Given.mk; intro h; (try exact absurd h (by decide)))
    | ((conv => whnf); with_reducible apply Both.mk))
  all_goals first
    | (with_reducible apply Ob.mk; decide)
    | ((conv => whnf); (with_reducible apply Ob.mk); exact rfl)
set_option maxRecDepth 100000 in
theorem nm_113 : NmF 113#8 := by
  repeat' (first
    | (with_reducible apply Given.mk; intro h; (try exact absurd h (by decide)))
    | ((conv => whnf); with_reducible apply Both.mk))
  all_goals first
    | (with_reducible apply Ob.mk; decide)
    | ((conv => whnf); (with_reducible apply Ob.mk); exact rfl)
set_option maxRecDepth 100000 in
theorem nm_114 : NmF 114#8 := by
  repeat' (first
    | (with_reducible apply Given.mk; intro h; (try exact absurd h (by decide)))
    | ((conv => whnf); with_reducible apply Both.mk))
  all_goals first
    | (with_reducible apply Ob.mk; decide)
    | ((conv => whnf); (with_reducible apply Ob.mk); exact rfl)
set_option maxRecDepth 100000 in
theorem nm_115 : NmF 115#8 := by
  repeat' (first
    | (with_reducible apply Given.mk; intro h; (try exact absurd h (by decide)))
    | ((conv => whnf); with_reducible apply Both.mk))
  all_goals first
    | (with_reducible apply Ob.mk; decide)
    | ((conv => whnf); (with_reducible apply Ob.mk); exact rfl)
set_option maxRecDepth 100000 in
theorem nm_116 : NmF 116#8 := by
  repeat' (first
    | (with_reducible apply Given.mk; intro h; (try exact absurd h (by decide)))
    | ((conv => whnf); with_reducible apply Both.mk))
  all_goals first
    | (with_reducible apply Ob.mk; decide)
    | ((conv => whnf); (with_reducible apply Ob.mk); exact rfl)
set_option maxRecDepth 100000 in
theorem nm_117 : NmF 117#8 := by
  repeat' (first
    | (with_reducible apply Given.mk; intro h; (try exact absurd h (by decide)))
    | ((conv => whnf); with_reducible apply Both.mk))
  all_goals first
    | (with_reducible apply Ob.mk; decide)
    | ((conv => whnf); (with_reducible apply Ob.mk); exact rfl)
set_option maxRecDepth 100000 in
theorem nm_118 : NmF 118#8 := by
  repeat' (first
    | (with_reducible apply Given.mk; intro h; (try exact absurd h (by decide)))
    | ((conv => whnf); with_reducible apply Both.mk))
  all_goals first
    | (with_reducible apply Ob.mk; decide)
    | ((conv => whnf); (with_reducible apply Ob.mk); exact rfl)
set_option maxRecDepth 100000 in
theorem nm_119 : NmF 119#8 := by
  repeat' (first
    | (with_reducible apply Given.mk; intro h; (try exact absurd h (by decide)))
    | ((conv => whnf); with_reducible apply Both.mk))
  all_goals first
    | (with_reducible apply Ob.mk; decide)
    | ((conv => whnf); (with_reducible apply Ob.mk); exact rfl)
set_option maxRecDepth 100000 in
theorem nm_120 : NmF 120#8 := by
  repeat' (first
    | (with_reducible apply Given.mk; intro h; (try exact absurd h (by decide)))
    | ((conv => whnf); with_reducible apply Both.mk))
  all_goals first
    | (with_reducible apply Ob.mk; decide)
    | ((conv => whnf); (with_reducible apply Ob.mk); exact rfl)
set_option maxRecDepth 100000 in
theorem nm_121 : NmF 121#8 := by
  repeat' (first
    | (with_reducible apply Given.mk; intro h; (try exact absurd h (by decide)))
    | ((conv => whnf); with_reducible apply Both.mk))
  all_goals first
    | (with_reducible apply Ob.mk; decide)
    | ((conv => whnf); (with_reducible apply Ob.mk); exact rfl)
set_option maxRecDepth 100000 in
theorem nm_122 : NmF 122#8 := by
  repeat' (first
    | (with_reducible apply Given.mk; intro h; (try exact absurd h (by decide)))
    | ((conv => whnf); with_reducible apply Both.mk))
  all_goals first
    | (with_reducible apply Ob.mk; decide)
    | ((conv => whnf); (with_reducible apply Ob.mk); exact rfl)
set_option maxRecDepth 100000 in
theorem nm_123 : NmF 123#8 := by
  repeat' (first
    | (with_reducible apply Given.mk; intro h; (try exact absurd h (by decide)))
    | ((conv => whnf); with_reducible apply Both.mk))
  all_goals first
    | (with_reducible apply Ob.mk; decide)
    | ((conv => whnf); (with_reducible apply Ob.mk); exact rfl)
set_option maxRecDepth 100000 in
theorem nm_124 : NmF 124#8 := by
  repeat' (first
    | (with_reducible apply Given.mk; intro h; (try exact absurd h (by decide)))
    | ((conv => whnf); with_reducible apply Both.mk))
  all_goals first
    | (with_reducible apply Ob.mk; decide)
    | ((conv => whnf); (with_reducible apply Ob.mk); exact rfl)
set_option maxRecDepth 100000 in
theorem nm_125 : NmF 125#8 := by
  repeat' (first
    | (with_reducible apply Given.mk; intro h; (try exact absurd h (by decide)))
    | ((conv => whnf); with_reducible apply Both.mk))
  all_goals first
    | (with_reducible apply Ob.mk; decide)
    | ((conv => whnf); (with_reducible apply Ob.mk); exact rfl)
set_option maxRecDepth 100000 in
theorem nm_126 : NmF 126#8 := by
  repeat' (first
    | (with_reducible apply Given.mk; intro h; (try exact absurd h (by decide)))
    | ((conv => whnf); with_reducible apply Both.mk))
  all_goals first
    | (with_reducible apply Ob.mk; decide)
    | ((conv => whnf); (with_reducible apply Ob.mk); exact rfl)
set_option maxRecDepth 100000 in
theorem nm_127 : NmF 127#8 := by
  repeat' (first
    | (with_reducible apply Given.mk; intro h; (try exact absurd h (by decide)))
    | ((conv => whnf); with_reducible apply Both.mk))
  all_goals first
    | (with_reducible apply Ob.mk; decide)
    | ((conv => whnf); (with_reducible apply Ob.mk); exact rfl)
set_option maxRecDepth 100000 in
theorem nmr_7 {b : Nat} (h : b < 16) : NmF (BitVec.ofNat 8 (112 + b)) := by
  rcases b16 h with rfl | rfl | rfl | rfl | rfl | rfl | rfl | rfl | rfl | rfl | rfl | rfl | rfl | rfl | rfl | rfl
  · exact nm_112
  · exact nm_113
  · exact nm_114
  · exact nm_115
  · exact nm_116
  · exact nm_117
  · exact nm_118
  · exact nm_119
  · exact nm_120
  · exact nm_121
  · exact nm_122
  · exact nm_123
  · exact nm_124
  · exact nm_125
  · exact nm_126
  · exact nm_127
set_option maxRecDepth 100000 in
theorem nm_128 : NmF 128#8 := by
  repeat' (first
    | (with_reducible apply Given.mk; intro h; (try exact absurd h (by decide)))
    | ((conv => whnf); with_reducible apply Both.mk))
  all_goals first
    | (with_reducible apply Ob.mk; decide)
    | ((conv => whnf); (with_reducible apply Ob.mk); exact rfl)
set_option maxRecDepth 100000 in
theorem nm_129 : NmF 129#8 := by
  repeat' (first
    | (with_reducible apply Given.mk; intro h; (try exact absurd h (by decide)))
    | ((conv => whnf); with_reducible apply Both.mk))
  all_goals first
    | (with_reducible apply Ob.mk; decide)
    | ((conv => whnf); (with_reducible apply Ob.mk); exact rfl)
set_option maxRecDepth 100000 in
theorem nm_130 : NmF 130#8 := by
  repeat' (first
    | (with_reducible apply Given.mk; intro h; (try exact absurd h (by decide)))
    | ((conv => whnf); with_reducible apply Both.mk))
  all_goals first
    | (with_reducible apply Ob.mk; decide)
    | ((conv => whnf); (with_reducible apply Ob.mk); exact rfl)
set_option maxRecDepth 100000 in
theorem nm_131 : NmF 131#8 := by
  repeat' (first
    | (with_reducible apply Given.mk; intro h; (try exact absurd h (by decide)))
    | ((conv => whnf); with_reducible apply Both.mk))
  all_goals first
    | (with_reducible apply Ob.mk; decide)
    | ((conv => whnf); (with_reducible apply Ob.mk); exact rfl)
set_option maxRecDepth 100000 in
theorem nm_132 : NmF 132#8 := by
  repeat' (first
    | (with_reducible apply Given.mk; intro h; (try exact absurd h (by decide)))
    | ((conv => whnf); with_reducible apply Both.mk))
  all_goals first
    | (with_reducible apply Ob.mk; decide)
    | ((conv => whnf); (with_reducible apply Ob.mk); exact rfl)
set_option maxRecDepth 100000 in
theorem nm_133 : NmF 133#8 := by
  repeat' (first
    | (with_reducible apply Given.mk; intro h; (try exact absurd h (by decide)))
    | ((conv => whnf); with_reducible apply Both.mk))
  all_goals first
    | (with_reducible apply Ob.mk; decide)
    | ((conv => whnf); (with_reducible apply Ob.mk); exact rfl)
set_option maxRecDepth 100000 in
theorem nm_134 : NmF 134#8 := by
  repeat' (first
    | (with_reducible apply Given.mk; intro h; (try exact absurd h (by decide)))
    | ((conv => whnf); with_reducible apply Both.mk))
  all_goals first
    | (with_reducible apply Ob.mk; decide)
    | ((conv => whnf); (with_reducible apply Ob.mk); exact rfl)
set_option maxRecDepth 100000 in
theorem nm_135 : NmF 135#8 := by
  repeat' (first
    | (with_reducible apply Given.mk; intro h; (try exact absurd h (by decide)))
    | ((conv => whnf); with_reducible apply Both.mk))
  all_goals first
    | (with_reducible apply Ob.mk; decide)
    | ((conv => whnf); (with_reducible apply Ob.mk); exact rfl)
set_option maxRecDepth 100000 in
theorem nm_136 : NmF 136#8 := by
  repeat' (first
    | (with_reducible apply Given.mk; intro h; (try exact absurd h (by decide)))
    | ((conv => whnf); with_reducible apply Both.mk))
  all_goals first
    | (with_reducible apply Ob.mk; decide)
    | ((conv => whnf); (with_reducible apply Ob.mk); exact rfl)
set_option maxRecDepth 100000 in
theorem nm_137 : NmF 137#8 := by
  repeat' (first
    | (with_reducible apply Given.mk; intro h; (try exact absurd h (by decide)))
    | ((conv => whnf); with_reducible apply Both.mk))
  all_goals first
    | (with_reducible apply Ob.mk; decide)
    | ((conv => whnf); (with_reducible apply Ob.mk); exact rfl)
set_option maxRecDepth 100000 in
theorem nm_138 : NmF 138#8 := by
  repeat' (first
    | (with_reducible apply Given.mk; intro h; (try exact absurd h (by decide)))
    | ((conv => whnf); with_reducible apply Both.mk))
  all_goals first
    | (with_reducible apply Ob.mk; decide)
    | ((conv => whnf); (with_reducible apply Ob.mk); exact rfl)
set_option maxRecDepth 100000 in
theorem nm_139 : NmF 139#8 := by
  repeat' (first
    | (with_reducible apply Given.mk; intro h; (try exact absurd h (by decide)))
    | ((conv => whnf); with_reducible apply Both.mk))
  all_goals first
    | (with_reducible apply Ob.mk; decide)
    | ((conv => whnf); (with_reducible apply Ob.mk); exact rfl)
set_option maxRecDepth 100000 in
theorem nm_140 : NmF 140#8 := by
  repeat' (first
    | (with_reducible apply Given.mk; intro h; (try exact absurd h (by decide)))
    | ((conv => whnf); with_reducible apply Both.mk))
  all_goals first
    | (with_reducible apply Ob.mk; decide)
    | ((conv => whnf); (with_reducible apply Ob.mk); exact rfl)
set_option maxRecDepth 100000 in
theorem nm_141 : NmF 141#8 := by
  repeat' (first
    | (with_reducible apply Given.mk; intro h; (try exact absurd h (by decide)))
    | ((conv => whnf); with_reducible apply Both.mk))
  all_goals first
    | (with_reducible apply Ob.mk; decide)
    | ((conv => whnf); (with_reducible apply Ob.mk); exact rfl)
set_option maxRecDepth 100000 in
theorem nm_142 : NmF 142#8 := by
  repeat' (first
    | (with_reducible apply Given.mk; intro h; (try exact absurd h (by decide)))
    | ((conv => whnf); with_reducible apply Both.mk))
  all_goals first
    | (with_reducible apply Ob.mk; decide)
    | ((conv => whnf); (with_reducible apply Ob.mk); exact rfl)
set_option maxRecDepth 100000 in
theorem nm_143 : NmF 143#8 := by
  repeat' (first
    | (with_reducible apply Given.mk; intro h; (try exact absurd h (by decide)))
    | ((conv => whnf); with_reducible apply Both.mk))
  all_goals first
    | (with_reducible apply Ob.mk; decide)
    | ((conv => whnf); (with_reducible apply Ob.mk); exact rfl)
set_option maxRecDepth 100000 in
theorem nmr_8 {b : Nat} (h : b < 16) : NmF (BitVec.ofNat 8 (128 + b)) := by
  rcases b16 h with rfl | rfl | rfl | rfl | rfl | rfl | rfl | rfl | rfl | rfl | rfl | rfl | rfl | rfl | rfl | rfl
  · exact nm_128
  · exact nm_129
  · exact nm_130
  · exact nm_131
  · exact nm_132
  · exact nm_133
  · exact nm_134
  · exact nm_135
  · exact nm_136
  · exact nm_137
  · exact nm_138
  · exact nm_139
  · exact nm_140
  · exact nm_141
  · exact nm_142
  · exact nm_143
set_option maxRecDepth 100000 in
theorem nm_144 : NmF 144#8 := by
  repeat' (first
    | (with_reducible apply Given.mk; intro h; (try exact absurd h (by decide)))
    | ((conv => whnf); with_reducible apply Both.mk))
  all_goals first
    | (with_reducible apply Ob.mk; decide)
    | ((conv => whnf); (with_reducible apply Ob.mk); exact rfl)
set_option maxRecDepth 100000 in
theorem nm_145 : NmF 145#8 := by
  repeat' (first
    | (with_reducible apply Given.mk; intro h; (try exact absurd h (by decide)))
    | ((conv => whnf); with_reducible apply Both.mk))
  all_goals first
    | (with_reducible apply Ob.mk; decide)
    | ((conv => whnf); (with_reducible apply Ob.mk); exact rfl)
set_option maxRecDepth 100000 in
theorem nm_146 : NmF 146#8 := by
  repeat' (first
    | (with_reducible apply Given.mk; intro h; (try exact absurd h (by decide)))
    | ((conv => whnf); with_reducible apply Both.mk))
  all_goals first
    | (with_reducible apply Ob.mk; decide)
    | ((conv => whnf); (with_reducible apply Ob.mk); exact rfl)
set_option maxRecDepth 100000 in
theorem nm_147 : NmF 147#8 := by
  repeat' (first
    | (with_reducible apply Given.mk; intro h; (try exact absurd h (by decide)))
    | ((conv => whnf); with_reducible apply Both.mk))
  all_goals first
    | (with_reducible apply Ob.mk; decide)
    | ((conv => whnf); (with_reducible apply Ob.mk); exact rfl)
set_option maxRecDepth 100000 in
theorem nm_148 : NmF 148#8 := by
  repeat' (first
    | (with_reducible apply Given.mk; intro h; (try exact absurd h (by decide)))
    | ((conv => whnf); with_reducible apply Both.mk))
  all_goals first
    | (with_reducible apply Ob.mk; decide)
    | ((conv => whnf); (with_reducible apply Ob.mk); exact rfl)
set_option maxRecDepth 100000 in
theorem nm_149 : NmF 149#8 := by
  repeat' (first
    | (with_reducible apply Given.mk; intro h; (try exact absurd h (by decide)))
    | ((conv => whnf); with_reducible apply Both.mk))
  all_goals first
    | (with_reducible apply Ob.mk; decide)
    | ((conv => whnf); (with_reducible apply Ob.mk); exact rfl)
set_option maxRecDepth 100000 in
theorem nm_150 : NmF 150#8 := by
  repeat' (first
    | (with_reducible apply Given.mk; intro h; (try exact absurd h (by decide)))
    | ((conv => whnf); with_reducible apply Both.mk))
  all_goals first
    | (with_reducible apply Ob.mk; decide)
    | ((conv => whnf); (with_reducible apply Ob.mk); exact rfl)
set_option maxRecDepth 100000 in
theorem nm_151 : NmF 151#8 := by
  repeat' (first
    | (with_reducible apply Given.mk; intro h; (try exact absurd h (by decide)))
    | ((conv => whnf); with_reducible apply Both.mk))
  all_goals first
    | (with_reducible apply Ob.mk; decide)
    | ((conv => whnf); (with_reducible apply Ob.mk); exact rfl)
set_option maxRecDepth 100000 in
theorem nm_152 : NmF 152#8 := by
  repeat' (first
    | (with_reducible apply Given.mk; intro h; (try exact absurd h (by decide)))
    | ((conv => whnf); with_reducible apply Both.mk))
  all_goals first
    | (with_reducible apply Ob.mk; decide)
    | ((conv => whnf); (with_reducible apply Ob.mk); exact rfl)
set_option maxRecDepth 100000 in
theorem nm_153 : NmF 153#8 := by
  repeat' (first
    | (with_reducible apply Given.mk; intro h; (try exact absurd h (by decide)))
    | ((conv => whnf); with_reducible apply Both.mk))
  all_goals first
    | (with_reducible apply Ob.mk; decide)
    | ((conv => whnf); (with_reducible apply Ob.mk); exact rfl)
set_option maxRecDepth 100000 in
theorem nm_154 : NmF 154#8 := by
  repeat' (first
    | (with_reducible apply Given.mk; intro h; (try exact absurd h (by decide)))
    | ((conv => whnf); with_reducible apply Both.mk))
  all_goals first
    | (with_reducible apply Ob.mk; decide)
    | ((conv => whnf); (with_reducible apply Ob.mk); exact rfl)
set_option maxRecDepth 100000 in
theorem nm_155 : NmF 155#8 := by
  repeat' (first
    | (with_reducible apply Given.mk; intro h; (try exact absurd h (by decide)))
    | ((conv => whnf); with_reducible apply Both.mk))
  all_goals first
    | (with_reducible apply Ob.mk; decide)
    | ((conv => whnf); (with_reducible apply Ob.mk); exact rfl)
set_option maxRecDepth 100000 in
theorem nm_156 : NmF 156#8 := by
  repeat' (first
    | (with_reducible apply Given.mk; intro h; (try exact absurd h (by decide)))
    | ((conv => whnf); with_reducible apply Both.mk))
  all_goals first
    | (with_reducible apply Ob.mk; decide)
    | ((conv => whnf); (with_reducible apply Ob.mk); exact rfl)
set_option maxRecDepth 100000 in
theorem nm_157 : NmF 157#8 := by
  repeat' (first
    | (with_reducible apply Given.mk; intro h; (try exact absurd h (by decide)))
    | ((conv => whnf); with_reducible apply Both.mk))
  all_goals first
    | (with_reducible apply Ob.mk; decide)
    | ((conv => whnf); (with_reducible apply Ob.mk); exact rfl)
set_option maxRecDepth 100000 in
theorem nm_158 : NmF 158#8 := by
  repeat' (first
    | (with_reducible apply Given.mk; intro h; (try exact absurd h (by decide)))
    | ((conv => whnf); with_reducible apply Both.mk))
  all_goals first
    | (with_reducible apply Ob.mk; decide)
    | ((conv => whnf); (with_reducible apply Ob.mk); exact rfl)
set_option maxRecDepth 100000 in
theorem nm_159 : NmF 159#8 := by
  repeat' (first
    | (with_reducible apply Given.mk; intro h; (try exact absurd h (by decide)))
    | ((conv => whnf); with_reducible apply Both.mk))
  all_goals first
    | (with_reducible apply Ob.mk; decide)
    | ((conv => whnf); (with_reducible apply Ob.mk); exact rfl)
set_option maxRecDepth 100000 in
theorem nmr_9 {b : Nat} (h : b < 16) : NmF (BitVec.ofNat 8 (144 + b)) := by
  rcases b16 h with rfl | rfl | rfl | rfl | rfl | rfl | rfl | rfl | rfl | rfl | rfl | rfl | rfl | rfl | rfl | rfl
  · exact nm_144
  · exact nm_145
  · exact nm_146
  · exact nm_147
  · exact nm_148
  · exact nm_149
  · exact nm_150
  · exact nm_151
  · exact nm_152
  · exact nm_153
  · exact nm_154
  · exact nm_155
  · exact nm_156
  · exact nm_157
  · exact nm_158
  · exact nm_159
set_option maxRecDepth 100000 in
theorem nm_160 : NmF 160#8 := by
  repeat' (first
    | (with_reducible apply Given.mk; intro h; (try exact absurd h (by decide)))
    | ((conv => whnf); with_reducible apply Both.mk))
  all_goals first
    | (with_reducible apply Ob.mk; decide)
    | ((conv => whnf); (with_reducible apply Ob.mk); exact rfl)
set_option maxRecDepth 100000 in
theorem nm_161 : NmF 161#8 := by
  repeat' (first
    | (with_reducible apply Given.mk; intro h; (try exact absurd h (by decide)))
    | ((conv => whnf); with_reducible apply Both.mk))
  all_goals first
    | (with_reducible apply Ob.mk; decide)
    | ((conv => whnf); (with_reducible apply Ob.mk); exact rfl)
set_option maxRecDepth 100000 in
theorem nm_162 : NmF 162#8 := by
  repeat' (first
    | (with_reducible apply Given.mk; intro h; (try exact absurd h (by decide)))
    | ((conv => whnf); with_reducible apply Both.mk))
  all_goals first
    | (with_reducible apply Ob.mk; decide)
    | ((conv => whnf); (with_reducible apply Ob.mk); exact rfl)
set_option maxRecDepth 100000 in
theorem nm_163 : NmF 163#8 := by
  repeat' (first
    | (with_reducible apply Given.mk; intro h; (try exact absurd h (by decide)))
    | ((conv => whnf); with_reducible apply Both.mk))
  all_goals first
    | (with_reducible apply Ob.mk; decide)
    | ((conv => whnf); (with_reducible apply Ob.mk); exact rfl)
set_option maxRecDepth 100000 in
theorem nm_164 : NmF 164#8 := by
  repeat' (first
    | (with_reducible apply Given.mk; intro h; (try exact absurd h (by decide)))
    | ((conv => whnf); with_reducible apply Both.mk))
  all_goals first
    | (with_reducible apply Ob.mk; decide)
    | ((conv => whnf); (with_reducible apply Ob.mk); exact rfl)
set_option maxRecDepth 100000 in
theorem nm_165 : NmF 165#8 := by
  repeat' (first
    | (with_reducible apply Given.mk; intro h; (try exact absurd h (by decide)))
    | ((conv => whnf); with_reducible apply Both.mk))
  all_goals first
    | (with_reducible apply Ob.mk; decide)
    | ((conv => whnf); (with_reducible apply Ob.mk); exact rfl)
set_option maxRecDepth 100000 in
theorem nm_166 : NmF 166#8 := by
  repeat' (first
    | (with_reducible apply Given.mk; intro h; (try exact absurd h (by decide)))
    | ((conv => whnf); with_reducible apply Both.mk))
  all_goals first
    | (with_reducible apply Ob.mk; decide)
    | ((conv => whnf); (with_reducible apply Ob.mk); exact rfl)
set_option maxRecDepth 100000 in
theorem nm_167 : NmF 167#8 := by
  repeat' (first
    | (with_reducible apply Given.mk; intro h; (try exact absurd h (by decide)))
    | ((conv => whnf); with_reducible apply Both.mk))
  all_goals first
    | (with_reducible apply Ob.mk; decide)
    | ((conv => whnf); (with_reducible apply Ob.mk); exact rfl)
set_option maxRecDepth 100000 in
theorem nm_168 : NmF 168#8 := by
  repeat' (first
    | (with_reducible apply Given.mk; intro h; (try exact absurd h (by decide)))
    | ((conv => whnf); with_reducible apply Both.mk))
  all_goals first
    | (with_reducible apply Ob.mk; decide)
    | ((conv => whnf); (with_reducible apply Ob.mk); exact rfl)
set_option maxRecDepth 100000 in
theorem nm_169 : NmF 169#8 := by
  repeat' (first
    | (with_reducible apply Given.mk; intro h; (try exact absurd h (by decide)))
    | ((conv => whnf); with_reducible apply Both.mk))
  all_goals first
    | (with_reducible apply Ob.mk; decide)
    | ((conv => whnf); (with_reducible apply Ob.mk); exact rfl)
set_option maxRecDepth 100000 in
theorem nm_170 : NmF 170#8 := by
  repeat' (first
    | (with_reducible apply Given.mk; intro h; (try exact absurd h (by decide)))
    | ((conv => whnf); with_reducible apply Both.mk))
  all_goals first
    | (with_reducible apply Ob.mk; decide)
    | ((conv => whnf); (with_reducible apply Ob.mk); exact rfl)
set_option maxRecDepth 100000 in
theorem nm_171 : NmF 171#8 := by
  repeat' (first
    | (with_reducible apply Given.mk; intro h; (try exact absurd h (by decide)))
    | ((conv => whnf); with_reducible apply Both.mk))
  all_goals first
    | (with_reducible apply Ob.mk; decide)
    | ((conv => whnf); (with_reducible apply Ob.mk); exact rfl)
set_option maxRecDepth 100000 in
theorem nm_172 : NmF 172#8 := by
  repeat' (first
    | (with_reducible apply Given.mk; intro h; (try exact absurd h (by decide)))
    | ((conv => whnf); with_reducible apply Both.mk))
  all_goals first
    | (with_reducible apply Ob.mk; decide)
    | ((conv => whnf); (with_reducible apply Ob.mk); exact rfl)
set_option maxRecDepth 100000 in
theorem nm_173 : NmF 173#8 := by
  repeat' (first
    | (with_reducible apply Given.mk; intro h; (try exact absurd h (by decide)))
    | ((conv => whnf); with_reducible apply Both.mk))
  all_goals first
    | (with_reducible apply Ob.mk; decide)
    | ((conv => whnf); (with_reducible apply Ob.mk); exact rfl)
set_option maxRecDepth 100000 in
theorem nm_174 : NmF 174#8 := by
  repeat' (first
    | (with_reducible apply Given.mk; intro h; (try exact absurd h (by decide)))
    | ((conv => whnf); with_reducible apply Both.mk))
  all_goals first
    | (with_reducible apply Ob.mk; decide)
    | ((conv => whnf); (with_reducible apply Ob.mk); exact rfl)
set_option maxRecDepth 100000 in
theorem nm_175 : NmF 175#8 := by
  repeat' (first
    | (with_reducible apply Given.mk; intro h; (try exact absurd h (by decide)))
    | ((conv => whnf); with_reducible apply Both.mk))
  all_goals first
    | (with_reducible apply Ob.mk; decide)
    | ((conv => whnf); (with_reducible apply Ob.mk); exact rfl)
set_option maxRecDepth 100000 in
theorem nmr_10 {b : Nat} (h : b < 16) : NmF (BitVec.ofNat 8 (160 + b)) := by
  rcases b16 h with rfl | rfl | rfl | rfl | rfl | rfl | rfl | rfl | rfl | rfl | rfl | rfl | rfl | rfl | rfl | rfl
  · exact nm_160
  · exact nm_161
  · exact nm_162
  · exact nm_163
  · exact nm_164
  · exact nm_165
  · exact nm_166
  · exact nm_167
  · exact nm_168
  · exact nm_169
  · exact nm_170
  · exact nm_171
  · exact nm_172
  · exact nm_173
  · exact nm_174
  · exact nm_175
set_option maxRecDepth 100000 in
theorem nm_176 : NmF 176#8 := by
  repeat' (first
    | (with_reducible apply Given.mk; intro h; (try exact absurd h (by decide)))
    | ((conv => whnf); with_reducible apply Both.mk))
  all_goals first
    | (with_reducible apply Ob.mk; decide)
    | ((conv => whnf); (with_reducible apply Ob.mk); exact rfl)
set_option maxRecDepth 100000 in
theorem nm_177 : NmF 177#8 := by
  repeat' (first
    | (with_reducible apply Given.mk; intro h; (try exact absurd h (by decide)))
    | ((conv => whnf); with_reducible apply Both.mk))
  all_goals first
    | (with_reducible apply Ob.mk; decide)
    | ((conv => whnf); (with_reducible apply Ob.mk); exact rfl)
set_option maxRecDepth 100000 in
theorem nm_178 : NmF 178#8 := by
  repeat' (first
    | (with_reducible apply Given.mk; intro h; (try exact absurd h (by decide)))
    | ((conv => whnf); with_reducible apply Both.mk))
  all_goals first
    | (with_reducible apply Ob.mk; decide)
    | ((conv => whnf); (with_reducible apply Ob.mk); exact rfl)
set_option maxRecDepth 100000 in
theorem nm_179 : NmF 179#8 := by
  repeat' (first
    | (with_reducible apply Given.mk; intro h; (try exact absurd h (by decide)))
    | ((conv => whnf); with_reducible apply Both.mk))
  all_goals first
    | (with_reducible apply Ob.mk; decide)
    | ((conv => whnf); (with_reducible apply Ob.mk); exact rfl)
set_option maxRecDepth 100000 in
theorem nm_180 : NmF 180#8 := by
  repeat' (first
    | (with_reducible apply Given.mk; intro h; (try exact absurd h (by decide)))
    | ((conv => whnf); with_reducible apply Both.mk))
  all_goals first
    | (with_reducible apply Ob.mk; decide)
    | ((conv => whnf); (with_reducible apply Ob.mk); exact rfl)
set_option maxRecDepth 100000 in
theorem nm_181 : NmF 181#8 := by
  repeat' (first
    | (with_reducible apply Given.mk; intro h; (try exact absurd h (by decide)))
    | ((conv => whnf); with_reducible apply Both.mk))
  all_goals first
    | (with_reducible apply Ob.mk; decide)
    | ((conv => whnf); (with_reducible apply Ob.mk); exact rfl)
set_option maxRecDepth 100000 in
theorem nm_182 : NmF 182#8 := by
  repeat' (first
    | (with_reducible apply Given.mk; intro h; (try exact absurd h (by decide)))
    | ((conv => whnf); with_reducible apply Both.mk))
  all_goals first
    | (with_reducible apply Ob.mk; decide)
    | ((conv => whnf); (with_reducible apply Ob.mk); exact rfl)
set_option maxRecDepth 100000 in
theorem nm_183 : NmF 183#8 := by
  repeat' (first
    | (with_reducible apply Given.mk; intro h; (try exact absurd h (by decide)))
    | ((conv => whnf); with_reducible apply Both.mk))
  all_goals first
    | (with_reducible apply Ob.mk; decide)
    | ((conv => whnf); (with_reducible apply Ob.mk); exact rfl)
set_option maxRecDepth 100000 in
theorem nm_184 : NmF 184#8 := by
  repeat' (first
    | (with_reducible apply Given.mk; intro h; (try exact absurd h (by decide)))
    | ((conv => whnf); with_reducible apply Both.mk))
  all_goals first
    | (with_reducible apply Ob.mk; decide)
    | ((conv => whnf); (with_reducible apply Ob.mk); exact rfl)
set_option maxRecDepth 100000 in
theorem nm_185 : NmF 185#8 := by
  repeat' (first
    | (with_reducible apply Given.mk; intro h; (try exact absurd h (by decide)))
    | ((conv => whnf); with_reducible apply Both.mk))
  all_goals first
    | (with_reducible apply Ob.mk; decide)
    | ((conv => whnf); (with_reducible apply Ob.mk); exact rfl)
set_option maxRecDepth 100000 in
theorem nm_186 : NmF 186#8 := by
  repeat' (first
    | (with_reducible apply Given.mk; intro h; (try exact absurd h (by decide)))
    | ((conv => whnf); with_reducible apply Both.mk))
  all_goals first
    | (with_reducible apply Ob.mk; decide)
    | ((conv => whnf); (with_reducible apply Ob.mk); exact rfl)
set_option maxRecDepth 100000 in
theorem nm_187 : NmF 187#8 := by
  repeat' (first
    | (with_reducible apply Given.mk; intro h; (try exact absurd h (by decide)))
    | ((conv => whnf); with_reducible apply Both.mk))
  all_goals first
    | (with_reducible apply Ob.mk; decide)
    | ((conv => whnf); (with_reducible apply Ob.mk); exact rfl)
set_option maxRecDepth 100000 in
theorem nm_188 : NmF 188#8 := by
  repeat' (first
    | (with_reducible apply Given.mk; intro h; (try exact absurd h (by decide)))
    | ((conv => whnf); with_reducible apply Both.mk))
  all_goals first
    | (with_reducible apply Ob.mk; decide)
    | ((conv => whnf); (with_reducible apply Ob.mk); exact rfl)
set_option maxRecDepth 100000 in
theorem nm_189 : NmF 189#8 := by
  repeat' (first
    | (with_reducible apply Given.mk; intro h; (try exact absurd h (by decide)))
    | ((conv => whnf); with_reducible apply Both.mk))
  all_goals first
    | (with_reducible apply Ob.mk; decide)
    | ((conv => whnf); (with_reducible apply Ob.mk); exact rfl)
set_option maxRecDepth 100000 in
theorem nm_190 : NmF 190#8 := by
  repeat' (first
    | (with_reducible apply Given.mk; intro h; (try exact absurd h (by decide)))
    | ((conv => whnf); with_reducible apply Both.mk))
  all_goals first
    | (with_reducible apply Ob.mk; decide)
    | ((conv => whnf); (with_reducible apply Ob.mk); exact rfl)
set_option maxRecDepth 100000 in
theorem nm_191 : NmF 191#8 := by
  repeat' (first
    | (with_reducible apply Given.mk; intro h; (try exact absurd h (by decide)))
    | ((conv => whnf); with_reducible apply Both.mk))
  all_goals first
    | (with_reducible apply Ob.mk; decide)
    | ((conv => whnf); (with_reducible apply Ob.mk); exact rfl)
set_option maxRecDepth 100000 in
theorem nmr_11 {b : Nat} (h : b < 16) : NmF (BitVec.ofNat 8 (176 + b)) := by
  rcases b16 h with rfl | rfl | rfl | rfl | rfl | rfl | rfl | rfl | rfl | rfl | rfl | rfl | rfl | rfl | rfl | rfl
  · exact nm_176
  · exact nm_177
  · exact nm_178
  · exact nm_179
  · exact nm_180
  · exact nm_181
  · exact nm_182
  · exact nm_183
  · exact nm_184
  · exact nm_185
  · exact nm_186
  · exact nm_187
  · exact nm_188
  · exact nm_189
  · exact nm_190
  · exact nm_191
set_option maxRecDepth 100000 in
theorem nm_192 : NmF 192#8 := by
  repeat' (first
    | (with_reducible apply Given.mk; intro h; (try exact absurd h (by decide)))
    | ((conv => whnf); with_reducible apply Both.mk))
  all_goals first
    | (with_reducible apply Ob.mk; decide)
    | ((conv => whnf); (with_reducible apply Ob.mk); exact rfl)
set_option maxRecDepth 100000 in
theorem nm_193 : NmF 193#8 := by
  repeat' (first
    | (with_reducible apply Given.mk; intro h; (try exact absurd h (by decide)))
    | ((conv => whnf); with_reducible apply Both.mk))
  all_goals first
    | (with_reducible apply Ob.mk; decide)
    | ((conv => whnf); (with_reducible apply Ob.mk); exact rfl)
set_option maxRecDepth 100000 in
theorem nm_194 : NmF 194#8 := by
  repeat' (first
    | (with_reducible apply Given.mk; intro h; (try exact absurd h (by decide)))
    | ((conv => whnf); with_reducible apply Both.mk))
  all_goals first
    | (with_reducible apply Ob.mk; decide)
    | ((conv => whnf); (with_reducible apply Ob.mk); exact rfl)
set_option maxRecDepth 100000 in
theorem nm_195 : NmF 195#8 := by
  repeat' (first
    | (with_reducible apply Given.mk; intro h; (try exact absurd h (by decide)))
    | ((conv => whnf); with_reducible apply Both.mk))
  all_goals first
    | (with_reducible apply Ob.mk; decide)
    | ((conv => whnf); (with_reducible apply Ob.mk); exact rfl)
set_option maxRecDepth 100000 in
theorem nm_196 : NmF 196#8 := by
  repeat' (first
    | (with_reducible apply Given.mk; intro h; (try exact absurd h (by decide)))
    | ((conv => whnf); with_reducible apply Both.mk))
  all_goals first
    | (with_reducible apply Ob.mk; decide)
    | ((conv => whnf); (with_reducible apply Ob.mk); exact rfl)
set_option maxRecDepth 100000 in
theorem nm_197 : NmF 197#8 := by
  repeat' (first
    | (with_reducible apply Given.mk; intro h; (try exact absurd h (by decide)))
    | ((conv => whnf); with_reducible apply Both.mk))
  all_goals first
    | (with_reducible apply Ob.mk; decide)
    | ((conv => whnf); (with_reducible apply Ob.mk); exact rfl)
set_option maxRecDepth 100000 in
theorem nm_198 : NmF 198#8 := by
  repeat' (first
    | (with_reducible apply Given.mk; intro h; (try exact absurd h (by decide)))
    | ((conv => whnf); with_reducible apply Both.mk))
  all_goals first
    | (with_reducible apply Ob.mk; decide)
    | ((conv => whnf); (with_reducible apply Ob.mk); exact rfl)
set_option maxRecDepth 100000 in
theorem nm_199 : NmF 199#8 := by
  repeat' (first
    | (with_reducible apply Given.mk; intro h; (try exact absurd h (by decide)))
    | ((conv => whnf); with_reducible apply Both.mk))
  all_goals first
    | (with_reducible apply Ob.mk; decide)
    | ((conv => whnf); (with_reducible apply Ob.mk); exact rfl)
set_option maxRecDepth 100000 in
theorem nm_200 : NmF 200#8 := by
  repeat' (first
    | (with_reducible apply Given.mk; intro h; (try exact absurd h (by decide)))
    | ((conv => whnf); with_reducible apply Both.mk))
  all_goals first
    | (with_reducible apply Ob.mk; decide)
    | ((conv => whnf); (with_reducible apply Ob.mk); exact rfl)
set_option maxRecDepth 100000 in
theorem nm_201 : NmF 201#8 := by
  repeat' (first
    | (with_reducible apply Given.mk; intro h; (try exact absurd h (by decide)))
    | ((conv => whnf); with_reducible apply Both.mk))
  all_goals first
    | (with_reducible apply Ob.mk; decide)
    | ((conv => whnf); (with_reducible apply Ob.mk); exact rfl)
set_option maxRecDepth 100000 in
theorem nm_202 : NmF 202#8 := by
  repeat' (first
    | (with_reducible apply Given.mk; intro h; (try exact absurd h (by decide)))
    | ((conv => whnf); with_reducible apply Both.mk))
  all_goals first
    | (with_reducible apply Ob.mk; decide)
    | ((conv => whnf); (with_reducible apply Ob.mk); exact rfl)
set_option maxRecDepth 100000 in
theorem nm_203 : NmF 203#8 := by
  repeat' (first
    | (with_reducible apply Given.mk; intro h; (try exact absurd h (by decide)))
    | ((conv => whnf); with_reducible apply Both.mk))
  all_goals first
    | (with_reducible apply Ob.mk; decide)
    | ((conv => whnf); (with_reducible apply Ob.mk); exact rfl)
set_option maxRecDepth 100000 in
theorem nm_204 : NmF 204#8 := by
  repeat' (first
    | (with_reducible apply Given.mk; intro h; (try exact absurd h (by decide)))
    | ((conv => whnf); with_reducible apply Both.mk))
  all_goals first
    | (with_reducible apply Ob.mk; decide)
    | ((conv => whnf); (with_reducible apply Ob.mk); exact rfl)
set_option maxRecDepth 100000 in
theorem nm_205 : NmF 205#8 := by
  repeat' (first
    | (with_reducible apply Given.mk; intro h; (try exact absurd h (by decide)))
    | ((conv => whnf); with_reducible apply Both.mk))
  all_goals first
    | (with_reducible apply Ob.mk; decide)
    | ((conv => whnf); (with_reducible apply Ob.mk); exact rfl)
set_option maxRecDepth 100000 in
theorem nm_206 : NmF 206#8 := by
  repeat' (first
    | (with_reducible apply Given.mk; intro h; (try exact absurd h (by decide)))
    | ((conv => whnf); with_reducible apply Both.mk))
  all_goals first
    | (with_reducible apply Ob.mk; decide)
    | ((conv => whnf); (with_reducible apply Ob.mk); exact rfl)
set_option maxRecDepth 100000 in
theorem nm_207 : NmF 207#8 := by
  repeat' (first
    | (with_reducible apply Given.mk; intro h; (try exact absurd h (by decide)))
    | ((conv => whnf); with_reducible apply Both.mk))
  all_goals first
    | (with_reducible apply Ob.mk; decide)
    | ((conv => whnf); (with_reducible apply Ob.mk); exact rfl)
set_option maxRecDepth 100000 in
theorem nmr_12 {b : Nat} (h : b < 16) : NmF (BitVec.ofNat 8 (192 + b)) := by
  rcases b16 h with rfl | rfl | rfl | rfl | rfl | rfl | rfl | rfl | rfl | rfl | rfl | rfl | rfl | rfl | rfl | rfl
  · exact nm_192
  · exact nm_193
  · exact nm_194
  · exact nm_195
  · exact nm_196
  · exact nm_197
  · exact nm_198
  · exact nm_199
  · exact nm_200
  · exact nm_201
  · exact nm_202
  · exact nm_203
  · exact nm_204
  · exact nm_205
  · exact nm_206
  · exact nm_207
set_option maxRecDepth 100000 in
theorem nm_208 : NmF 208#8 := by
  repeat' (first
    | (with_reducible apply Given.mk; intro h; (try exact absurd h (by decide)))
    | ((conv => whnf); with_reducible apply Both.mk))
  all_goals first
    | (with_reducible apply Ob.mk; decide)
    | ((conv => whnf); (with_reducible apply Ob.mk); exact rfl)
set_option maxRecDepth 100000 in
theorem nm_209 : NmF 209#8 := by
  repeat' (first
    | (with_reducible apply Given.mk; intro h; (try exact absurd h (by decide)))
    | ((conv => whnf); with_reducible apply Both.mk))
  all_goals first
    | (with_reducible apply Ob.mk; decide)
    | ((conv => whnf); (with_reducible apply Ob.mk); exact rfl)
set_option maxRecDepth 100000 in
theorem nm_210 : NmF 210#8 := by
  repeat' (first
    | (with_reducible apply Given.mk; intro h; (try exact absurd h (by decide)))
    | ((conv => whnf); with_reducible apply Both.mk))
  all_goals first
    | (with_reducible apply Ob.mk; decide)
    | ((conv => whnf); (with_reducible apply Ob.mk); exact rfl)
set_option maxRecDepth 100000 in
theorem nm_211 : NmF 211#8 := by
  repeat' (first
    | (with_reducible apply Given.mk; intro h; (try exact absurd h (by decide)))
    | ((conv => whnf); with_reducible apply Both.mk))
  all_goals first
    | (with_reducible apply Ob.mk; decide)
    | ((conv => whnf); (with_reducible apply Ob.mk); exact rfl)
set_option maxRecDepth 100000 in
theorem nm_212 : NmF 212#8 := by
  repeat' (first
    | (with_reducible apply Given.mk; intro h; (try exact absurd h (by decide)))
    | ((conv => whnf); with_reducible apply Both.mk))
  all_goals first
    | (with_reducible apply Ob.mk; decide)
    | ((conv => whnf); (with_reducible apply Ob.mk); exact rfl)
set_option maxRecDepth 100000 in
theorem nm_213 : NmF 213#8 := by
  repeat' (first
    | (with_reducible apply Given.mk; intro h; (try exact absurd h (by decide)))
    | ((conv => whnf); with_reducible apply Both.mk))
  all_goals first
    | (with_reducible apply Ob.mk; decide)
    | ((conv => whnf); (with_reducible apply Ob.mk); exact rfl)
set_option maxRecDepth 100000 in
theorem nm_214 : NmF 214#8 := by
  repeat' (first
    | (with_reducible apply Given.mk; intro h; (try exact absurd h (by decide)))
    | ((conv => whnf); with_reducible apply Both.mk))
  all_goals first
    | (with_reducible apply Ob.mk; decide)
    | ((conv => whnf); (with_reducible apply Ob.mk); exact rfl)
set_option maxRecDepth 100000 in
theorem nm_215 : NmF 215#8 := by
  repeat' (first
    | (with_reducible apply Given.mk; intro h; (try exact absurd h (by decide)))
    | ((conv => whnf); with_reducible apply Both.mk))
  all_goals first
    | (with_reducible apply Ob.mk; decide)
    | ((conv => whnf); (with_reducible apply Ob.mk); exact rfl)
set_option maxRecDepth 100000 in
theorem nm_216 : NmF 216#8 := by
  repeat' (first
    | (with_reducible apply Given.mk; intro h; (try exact absurd h (by decide)))
    | ((conv => whnf); with_reducible apply Both.mk))
  all_goals first
    | (with_reducible apply Ob.mk; decide)
    | ((conv => whnf); (with_reducible apply Ob.mk); exact rfl)
set_option maxRecDepth 100000 in
theorem nm_217 : NmF 217#8 := by
  repeat' (first
    | (with_reducible apply Given.mk; intro h; (try exact absurd h (by decide)))
    | ((conv => whnf); with_reducible apply Both.mk))
  all_goals first
    | (with_reducible apply Ob.mk; decide)
    | ((conv => whnf); (with_reducible apply Ob.mk); exact rfl)
set_option maxRecDepth 100000 in
theorem nm_218 : NmF 218#8 := by
  repeat' (first
    | (with_reducible apply Given.mk; intro h; (try exact absurd h (by decide)))
    | ((conv => whnf); with_reducible apply Both.mk))
  all_goals first
    | (with_reducible apply Ob.mk; decide)
    | ((conv => whnf); (with_reducible apply Ob.mk); exact rfl)
set_option maxRecDepth 100000 in
theorem nm_219 : NmF 219#8 := by
  repeat' (first
    | (with_reducible apply Given.mk; intro h; (try exact absurd h (by decide)))
    | ((conv => whnf); with_reducible apply Both.mk))
  all_goals first
    | (with_reducible apply Ob.mk; decide)
    | ((conv => whnf); (with_reducible apply Ob.mk); exact rfl)
set_option maxRecDepth 100000 in
theorem nm_220 : NmF 220#8 := by
  repeat' (first
    | (with_reducible apply Given.mk; intro h; (try exact absurd h (by decide)))
    | ((conv => whnf); with_reducible apply Both.mk))
  all_goals first
    | (with_reducible apply Ob.mk; decide)
    | ((conv => whnf); (with_reducible apply Ob.mk); exact rfl)
set_option maxRecDepth 100000 in
theorem nm_221 : NmF 221#8 := by
  repeat' (first
    | (with_reducible apply Given.mk; intro h; (try exact absurd h (by decide)))
    | ((conv => whnf); with_reducible apply Both.mk))
  all_goals first
    | (with_reducible apply Ob.mk; decide)
    | ((conv => whnf); (with_reducible apply Ob.mk); exact rfl)
set_option maxRecDepth 100000 in
theorem nm_222 : NmF 222#8 := by
  repeat' (first
    | (with_reducible apply Given.mk; intro h; (try exact absurd h (by decide)))
    | ((conv => whnf); with_reducible apply Both.mk))
  all_goals first
    | (with_reducible apply Ob.mk; decide)
    | ((conv => whnf); (with_reducible apply Ob.mk); exact rfl)
set_option maxRecDepth 100000 in
theorem nm_223 : NmF 223#8 := by
  repeat' (first
    | (with_reducible apply Given.mk; intro h; (try exact absurd h (by decide)))
    | ((conv => whnf); with_reducible apply Both.mk))
  all_goals first
    | (with_reducible apply Ob.mk; decide)
    | ((conv => whnf); (with_reducible apply Ob.mk); exact rfl)
set_option maxRecDepth 100000 in
theorem nmr_13 {b : Nat} (h : b < 16) : NmF (BitVec.ofNat 8 (208 + b)) := by
  rcases b16 h with rfl | rfl | rfl | rfl | rfl | rfl | rfl | rfl | rfl | rfl | rfl | rfl | rfl | rfl | rfl | rfl
  · exact nm_208
  · exact nm_209
  · exact nm_210
  · exact nm_211
  · exact nm_212
  · exact nm_213
  · exact nm_214
  · exact nm_215
  · exact nm_216
  · exact nm_217
  · exact nm_218
  · exact nm_219
  · exact nm_220
  · exact nm_221
  · exact nm_222
  · exact nm_223
set_option maxRecDepth 100000 in
theorem nm_224 : NmF 224#8 := by
  repeat' (first
    | (with_reducible apply Given.mk; intro h; (try exact absurd h (by decide)))
    | ((conv => whnf); with_reducible apply Both.mk))
  all_goals first
    | (with_reducible apply Ob.mk; decide)
    | ((conv => whnf); (with_reducible apply Ob.mk); exact rfl)
set_option maxRecDepth 100000 in
theorem nm_225 : NmF 225#8 := by
  repeat' (first
    | (with_reducible apply Given.mk; intro h; (try exact absurd h (by decide)))
    | ((conv => whnf); with_reducible apply Both.mk))
  all_goals first
    | (with_reducible apply Ob.mk; decide)
    | ((conv => whnf); (with_reducible apply Ob.mk); exact rfl)
set_option maxRecDepth 100000 in
theorem nm_226 : NmF 226#8 := by
  repeat' (first
    | (with_reducible apply Given.mk; intro h; (try exact absurd h (by decide)))
    | ((conv => whnf); with_reducible apply Both.mk))
  all_goals first
    | (with_reducible apply Ob.mk; decide)
    | ((conv => whnf); (with_reducible apply Ob.mk); exact rfl)
set_option maxRecDepth 100000 in
theorem nm_227 : NmF 227#8 := by
  repeat' (first
    | (with_reducible apply Given.mk; intro h; (try exact absurd h (by decide)))
    | ((conv => whnf); with_reducible apply Both.mk))
  all_goals first
    | (with_reducible apply Ob.mk; decide)
    | ((conv => whnf); (with_reducible apply Ob.mk); exact rfl)
set_option maxRecDepth 100000 in
theorem nm_228 : NmF 228#8 := by
  repeat' (first
    | (with_reducible apply Given.mk; intro h; (try exact absurd h (by decide)))
    | ((conv => whnf); with_reducible apply Both.mk))
  all_goals first
    | (with_reducible apply Ob.mk; decide)
    | ((conv => whnf); (with_reducible apply Ob.mk); exact rfl)
set_option maxRecDepth 100000 in
theorem nm_229 : NmF 229#8 := by
  repeat' (first
    | (with_reducible apply Given.mk; intro h; (try exact absurd h (by decide)))
    | ((conv => whnf); with_reducible apply Both.mk))
  all_goals first
    | (with_reducible apply Ob.mk; decide)
    | ((conv => whnf); (with_reducible apply Ob.mk); exact rfl)
set_option maxRecDepth 100000 in
theorem nm_230 : NmF 230#8 := by
  repeat' (first
    | (with_reducible apply Given.mk; intro h; (try exact absurd h (by decide)))
    | ((conv => whnf); with_reducible apply Both.mk))
  all_goals first
    | (with_reducible apply Ob.mk; decide)
    | ((conv => whnf); (with_reducible apply Ob.mk); exact rfl)
set_option maxRecDepth 100000 in
theorem nm_231 : NmF 231#8 := by
  repeat' (first
    | (with_reducible apply Given.mk; intro h; (try exact absurd h (by decide)))
    | ((conv => whnf); with_reducible apply Both.mk))
  all_goals first
    | (with_reducible apply Ob.mk; decide)
    | ((conv => whnf); (with_reducible apply Ob.mk); exact rfl)
set_option maxRecDepth 100000 in
theorem nm_232 : NmF 232#8 := by
  repeat' (first
    | (with_reducible apply Given.mk; intro h; (try exact absurd h (by decide)))
    | ((conv => whnf); with_reducible apply Both.mk))
  all_goals first
    | (with_reducible apply Ob.mk; decide)
    | ((conv => whnf); (with_reducible apply Ob.mk); exact rfl)
set_option maxRecDepth 100000 in
theorem nm_233 : NmF 233#8 := by
  repeat' (first
    | (with_reducible apply Given.mk; intro h; (try exact absurd h (by decide)))
    | ((conv => whnf); with_reducible apply Both.mk))
  all_goals first
    | (with_reducible apply Ob.mk; decide)
    | ((conv => whnf); (with_reducible apply Ob.mk); exact rfl)
set_option maxRecDepth 100000 in
theorem nm_234 : NmF 234#8 := by
  repeat' (first
    | (with_reducible apply Given.mk; intro h; (try exact absurd h (by decide)))
    | ((conv => whnf); with_reducible apply Both.mk))
  all_goals first
    | (with_reducible apply Ob.mk; decide)
    | ((conv => whnf); (with_reducible apply Ob.mk); exact rfl)
set_option maxRecDepth 100000 in
theorem nm_235 : NmF 235#8 := by
  repeat' (first
    | (with_reducible apply Given.mk; intro h; (try exact absurd h (by decide)))
    | ((conv => whnf); with_reducible apply Both.mk))
  all_goals first
    | (with_reducible apply Ob.mk; decide)
    | ((conv => whnf); (with_reducible apply Ob.mk); exact rfl)
set_option maxRecDepth 100000 in
theorem nm_236 : NmF 236#8 := by
  repeat' (first
    | (with_reducible apply Given.mk; intro h; (try exact absurd h (by decide)))
    | ((conv => whnf); with_reducible apply Both.mk))
  all_goals first
    | (with_reducible apply Ob.mk; decide)
    | ((conv => whnf); (with_reducible apply Ob.mk); exact rfl)
set_option maxRecDepth 100000 in
theorem nm_237 : NmF 237#8 := by
  repeat' (first
    | (with_reducible apply Given.mk; intro h; (try exact absurd h (by decide)))
    | ((conv => whnf); with_reducible apply Both.mk))
  all_goals first
    | (with_reducible apply Ob.mk; decide)
    | ((conv => whnf); (with_reducible apply Ob.mk); exact rfl)
set_option maxRecDepth 100000 in
theorem nm_238 : NmF 238#8 := by
  repeat' (first
    | (with_reducible apply Given.mk; intro h; (try exact absurd h (by decide)))
    | ((conv => whnf); with_reducible apply Both.mk))
  all_goals first
    | (with_reducible apply Ob.mk; decide)
    | ((conv => whnf); (with_reducible apply Ob.mk); exact rfl)
set_option maxRecDepth 100000 in
theorem nm_239 : NmF 239#8 := by
  repeat' (first
    | (with_reducible apply Given.mk; intro h; (try exact absurd h (by decide)))
    | ((conv => whnf); with_reducible apply Both.mk))
  all_goals first
    | (with_reducible apply Ob.mk; decide)
    | ((conv => whnf); (with_reducible apply Ob.mk); exact rfl)
set_option maxRecDepth 100000 in
theorem nmr_14 {b : Nat} (h : b < 16) : NmF (BitVec.ofNat 8 (224 + b)) := by
  rcases b16 h with rfl | rfl | rfl | rfl | rfl | rfl | rfl | rfl | rfl | rfl | rfl | rfl | rfl | rfl | rfl | rfl
  · exact nm_224
  · exact nm_225
  · exact nm_226
  · exact nm_227
  · exact nm_228
  · exact nm_229
  · exact nm_230
  · exact nm_231
  · exact nm_232
  · exact nm_233
  · exact nm_234
  · exact nm_235
  · exact nm_236
  · exact nm_237
  · exact nm_238
  · exact nm_239
set_option maxRecDepth 100000 in
theorem nm_240 : NmF 240#8 := by
  repeat' (first
    | (with_reducible apply Given.mk; intro h; (try exact absurd h (by decide)))
    | ((conv => whnf); with_reducible apply Both.mk))
  all_goals first
    | (with_reducible apply Ob.mk; decide)
    | ((conv => whnf); (with_reducible apply Ob.mk); exact rfl)
set_option maxRecDepth 100000 in
theorem nm_241 : NmF 241#8 := by
  repeat' (first
    | (with_reducible apply Given.mk; intro h; (try exact absurd h (by decide)))
    | ((conv => whnf); with_reducible apply Both.mk))
  all_goals first
    | (with_reducible apply Ob.mk; decide)
    | ((conv => whnf); (with_reducible apply Ob.mk); exact rfl)
set_option maxRecDepth 100000 in
theorem nm_242 : NmF 242#8 := by
  repeat' (first
    | (with_reducible apply Given.mk; intro h; (try exact absurd h (by decide)))
    | ((conv => whnf); with_reducible apply Both.mk))
  all_goals first
    | (with_reducible apply Ob.mk; decide)
    | ((conv => whnf); (with_reducible apply Ob.mk); exact rfl)
set_option maxRecDepth 100000 in
theorem nm_243 : NmF 243#8 := by
  repeat' (first
    | (with_reducible apply Given.mk; intro h; (try exact absurd h (by decide)))
    | ((conv => whnf); with_reducible apply Both.mk))
  all_goals first
    | (with_reducible apply Ob.mk; decide)
    | ((conv => whnf); (with_reducible apply Ob.mk); exact rfl)
set_option maxRecDepth 100000 in
theorem nm_244 : NmF 244#8 := by
  repeat' (first
    | (with_reducible apply Given.mk; intro h; (try exact absurd h (by decide)))
    | ((conv => whnf); with_reducible apply Both.mk))
  all_goals first
    | (with_reducible apply Ob.mk; decide)
    | ((conv => whnf); (with_reducible apply Ob.mk); exact rfl)
set_option maxRecDepth 100000 in
theorem nm_245 : NmF 245#8 := by
  repeat' (first
    | (with_reducible apply Given.mk; intro h; (try exact absurd h (by decide)))
    | ((conv => whnf); with_reducible apply Both.mk))
  all_goals first
    | (with_reducible apply Ob.mk; decide)
    | ((conv => whnf); (with_reducible apply Ob.mk); exact rfl)
set_option maxRecDepth 100000 in
theorem nm_246 : NmF 246#8 := by
  repeat' (first
    | (with_reducible apply Given.mk; intro h; (try exact absurd h (by decide)))
    | ((conv => whnf); with_reducible apply Both.mk))
  all_goals first
    | (with_reducible apply Ob.mk; decide)
    | ((conv => whnf); (with_reducible apply Ob.mk); exact rfl)
set_option maxRecDepth 100000 in
theorem nm_247 : NmF 247#8 := by
  repeat' (first
    | (with_reducible apply Given.mk; intro h; (try exact absurd h (by decide)))
    | ((conv => whnf); with_reducible apply Both.mk))
  all_goals first
    | (with_reducible apply Ob.mk; decide)
    | ((conv => whnf); (with_reducible apply Ob.mk); exact rfl)
set_option maxRecDepth 100000 in
theorem nm_248 : NmF 248#8 := by
  repeat' (first
    | (with_reducible apply Given.mk; intro h; (try exact absurd h (by decide)))
    | ((conv => whnf); with_reducible apply Both.mk))
  all_goals first
    | (with_reducible apply Ob.mk; decide)
    | ((conv => whnf); (with_reducible apply Ob.mk); exact rfl)
set_option maxRecDepth 100000 in
theorem nm_249 : NmF 249#8 := by
  repeat' (first
    | (with_reducible apply Given.mk; intro h; (try exact absurd h (by decide)))
    | ((conv => whnf); with_reducible apply Both.mk))
  all_goals first
    | (with_reducible apply Ob.mk; decide)
    | ((conv => whnf); (with_reducible apply Ob.mk); exact rfl)
set_option maxRecDepth 100000 in
theorem nm_250 : NmF 250#8 := by
  repeat' (first
    | (with_reducible apply Given.mk; intro h; (try exact absurd h (by decide)))
    | ((conv => whnf); with_reducible apply Both.mk))
  all_goals first
    | (with_reducible apply Ob.mk; decide)
    | ((conv => whnf); (with_reducible apply Ob.mk); exact rfl)
set_option maxRecDepth 100000 in
theorem nm_251 : NmF 251#8 := by
  repeat' (first
    | (with_reducible apply Given.mk; intro h; (try exact absurd h (by decide)))
    | ((conv => whnf); with_reducible apply Both.mk))
  all_goals first
    | (with_reducible apply Ob.mk; decide)
    | ((conv => whnf); (with_reducible apply Ob.mk); exact rfl)
set_option maxRecDepth 100000 in
theorem nm_252 : NmF 252#8 := by
  repeat' (first
    | (with_reducible apply Given.mk; intro h; (try exact absurd h (by decide)))
    | ((conv => whnf); with_reducible apply Both.mk))
  all_goals first
    | (with_reducible apply Ob.mk; decide)
    | ((conv => whnf); (with_reducible apply Ob.mk); exact rfl)
set_option maxRecDepth 100000 in
theorem nm_253 : NmF 253#8 := by
  repeat' (first
    | (with_reducible apply Given.mk; intro h; (try exact absurd h (by decide)))
    | ((conv => whnf); with_reducible apply Both.mk))
  all_goals first
    | (with_reducible apply Ob.mk; decide)
    | ((conv => whnf); (with_reducible apply Ob.mk); exact rfl)
set_option maxRecDepth 100000 in
theorem nm_254 : NmF 254#8 := by
  repeat' (first
    | (with_reducible apply Given.mk; intro h; (try exact absurd h (by decide)))
    | ((conv => whnf); with_reducible apply Both.mk))
  all_goals first
    | (with_reducible apply Ob.mk; decide)
    | ((conv => whnf); (with_reducible apply Ob.mk); exact rfl)
set_option maxRecDepth 100000 in
theorem nm_255 : NmF 255#8 := by
  repeat' (first
    | (with_reducible apply Given.mk; intro h; (try exact absurd h (by decide)))
    | ((conv => whnf); with_reducible apply Both.mk))
  all_goals first
    | (with_reducible apply Ob.mk; decide)
    | ((conv => whnf); (with_reducible apply Ob.mk); exact rfl)
set_option maxRecDepth 100000 in
theorem nmr_15 {b : Nat} (h : b < 16) : NmF (BitVec.ofNat 8 (240 + b)) := by
  rcases b16 h with rfl | rfl | rfl | rfl | rfl | rfl | rfl | rfl | rfl | rfl | rfl | rfl | rfl | rfl | rfl | rfl
  · exact nm_240
  · exact nm_241
  · exact nm_242
  · exact nm_243
  · exact nm_244
  · exact nm_245
  · exact nm_246
  · exact nm_247
  · exact nm_248
  · exact nm_249
  · exact nm_250
  · exact nm_251
  · exact nm_252
  · exact nm_253
  · exact nm_254
  · exact nm_255
set_option maxRecDepth 100000 in
theorem nm_all (o : BitVec 8) : NmF o := by
  have h1 : o.toNat / 16 < 16 := by have := o.isLt; omega
  have h2 : o.toNat % 16 < 16 := by omega
  have e : o = BitVec.ofNat 8 (16 * (o.toNat / 16) + o.toNat % 16) := by
    rw [Nat.div_add_mod, BitVec.ofNat_toNat, BitVec.setWidth_eq]
  rw [e]
  generalize o.toNat / 16 = a at h1
  generalize o.toNat % 16 = b at h2
  rcases b16 h1 with rfl | rfl | rfl | rfl | rfl | rfl | rfl | rfl | rfl | rfl | rfl | rfl | rfl | rfl | rfl | rfl
  · exact nmr_0 h2
  · exact nmr_1 h2
  · exact nmr_2 h2
  · exact nmr_3 h2
  · exact nmr_4 h2
  · exact nmr_5 h2
  · exact nmr_6 h2
  · exact nmr_7 h2
  · exact nmr_8 h2
  · exact nmr_9 h2
  · exact nmr_10 h2
  · exact nmr_11 h2
  · exact nmr_12 h2
  · exact nmr_13 h2
  · exact nmr_14 h2
  · exact nmr_15 h2
def sp_nm : Sp
  | [.one (.b8 false o)] => some (Cond.t, .one (.str (nameS o)))
  | _ => none
set_option maxRecDepth 100000 in
theorem e_nm : EntryOK Try.prog anyWorld 67 sp_nm := by
  refine .of_F C_t (by kernel_rfl) Try.func67 (by kernel_rfl) (by kernel_rfl) (fun args c v h hc => ?_)
  unfold sp_nm at h
  split at h
  · cases h
    exact ⟨rfl, rfl, nm_all _⟩
  · cases h
end Go.Proofs.Ytdaioplfgbgggaa
