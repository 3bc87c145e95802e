/-
  Contracts of the functions of package tnums: what each returns; memory is made, nothing else changes. Conditions: none.
-/
import Derived.Test.YtakemmdcaboapaaBits
import Derived.Test.YtakemmdcaboapaaShelf
import Derived.WalkKit
import Derived.WalkSpells
import Derived.WalkLawsBesides
import Derived.Outline
import Derived.Lib.Hide
import Derived.Lib.SmallJoins
import Derived.Deep.RegionHeld3
import Derived.Deep.RegionWith
import Derived.BigQuiet
import Derived.Deep.QuietTactic
namespace Go.Proofs.Ytakemmdcaboapaa
open Go.RowKit
set_option linter.unusedVariables false
set_option linter.unusedSimpArgs false

theorem bcell {W w1 : World} (hb : Below W.heap.size W w1) : (∀ b o, b < W.heap.size → w1.cell? ⟨b, o, none⟩ = W.cell? ⟨b, o, none⟩) ∧ (∀ b o, b < W.heap.size → w1.frozen? ⟨b, o, none⟩ = W.frozen? ⟨b, o, none⟩) :=
  ⟨fun b o h => hb.cell (p := ⟨b, o, none⟩) h, fun b o h => hb.frozen (p := ⟨b, o, none⟩) h⟩
theorem ret_agg2 {a b c d : BitVec 64} (h : a = c) (h' : b = d) : Ending.returned (.agg #[.int .u64 (U a), .int .u64 (U b)]) = .returned (.agg #[.int .u64 (U c), .int .u64 (U d)]) := by rw [h, h']

/-- A T as a value. -/
abbrev TV (a b : BitVec 64) : Value := .agg #[.int .u64 (U a), .int .u64 (U b)]

/-! what each function comes to -/
def tAddM (a b c d : BitVec 64) : BitVec 64 := (a + c + b + d) ^^^ (a + c) ||| b ||| d
def tAddV (a b c d : BitVec 64) : BitVec 64 := (a + c) &&& ~~~ (tAddM a b c d)
def tSubM (a b c d : BitVec 64) : BitVec 64 := (a - c + b) ^^^ (a - c - d) ||| b ||| d
def tSubV (a b c d : BitVec 64) : BitVec 64 := (a - c) &&& ~~~ (tSubM a b c d)
def tAndV (a b c d : BitVec 64) : BitVec 64 := a &&& c
def tAndM (a b c d : BitVec 64) : BitVec 64 := (a ||| b) &&& (c ||| d) &&& ~~~ (a &&& c)
def tOrV (a b c d : BitVec 64) : BitVec 64 := a ||| c
def tOrM (a b c d : BitVec 64) : BitVec 64 := (b ||| d) &&& ~~~ (a ||| c)
def tXorM (a b c d : BitVec 64) : BitVec 64 := b ||| d
def tXorV (a b c d : BitVec 64) : BitVec 64 := (a ^^^ c) &&& ~~~ (b ||| d)
def tEitherM (a b c d : BitVec 64) : BitVec 64 := b ||| d ||| (a ^^^ c)
def tEitherV (a b c d : BitVec 64) : BitVec 64 := a &&& ~~~ (tEitherM a b c d)
def tBothV (a b c d : BitVec 64) : BitVec 64 := (a ||| c) &&& ~~~ (b &&& d)
def tBothM (a b c d : BitVec 64) : BitVec 64 := b &&& d
def tBothOk (a b c d : BitVec 64) : Bool := (a ^^^ c) &&& ~~~ b &&& ~~~ d == 0#64
def tHas (a b x : BitVec 64) : Bool := x &&& ~~~ b == a
def tValid (a b : BitVec 64) : Bool := a &&& b == 0#64
def tIn (a b c d : BitVec 64) : Bool := (d &&& ~~~ b == 0#64) && tHas a b c

theorem const_any (v : BitVec 64) (w : World) :
    Calls Try.prog 22 #[.int .u64 (U v)] w fun e w' => e = .returned (TV v 0#64) ∧ Below w.heap.size w w' := by
  go_enter Try.func22, Try.ntmps22
  go_wp2
  exact bodyPost_ret (v := TV v 0#64) (by simp [results, Try.results22, go_sem]; first | done | rfl | exact ⟨rfl, rfl⟩) rfl ⟨rfl, (by repeat' (first | exact Below.refl _ _ | (refine Below.alloc ?_ (by simp <;> omega) _)))⟩

theorem any_any  (w : World) :
    Calls Try.prog 51 #[] w fun e w' => e = .returned (TV 0#64 (BitVec.allOnes 64)) ∧ Below w.heap.size w w' := by
  go_enter Try.func51, Try.ntmps51
  go_wp2
  exact bodyPost_ret (v := TV 0#64 (BitVec.allOnes 64)) (by simp [results, Try.results51, go_sem]; first | done | rfl | exact ⟨rfl, rfl⟩) rfl ⟨rfl, (by repeat' (first | exact Below.refl _ _ | (refine Below.alloc ?_ (by simp <;> omega) _)))⟩

theorem add_any (a b c d : BitVec 64) (w : World) :
    Calls Try.prog 31 #[TV a b, TV c d] w fun e w' => e = .returned (TV (tAddV a b c d) (tAddM a b c d)) ∧ Below w.heap.size w w' := by
  have h1 := u_bits_and
  have h2 := u_bits_or
  have h3 := u_bits_xor
  have h4 := u_bits_andNot
  have h5 := u_add
  have h6 := u_sub
  go_enter Try.func31, Try.ntmps31
  go_wp2
  exact bodyPost_ret (v := TV (tAddV a b c d) (tAddM a b c d)) (by simp [results, Try.results31, go_sem]; first | done | rfl | exact ⟨rfl, rfl⟩) rfl ⟨rfl, (by repeat' (first | exact Below.refl _ _ | (refine Below.alloc ?_ (by simp <;> omega) _)))⟩

theorem sub_any (a b c d : BitVec 64) (w : World) :
    Calls Try.prog 32 #[TV a b, TV c d] w fun e w' => e = .returned (TV (tSubV a b c d) (tSubM a b c d)) ∧ Below w.heap.size w w' := by
  have h1 := u_bits_and
  have h2 := u_bits_or
  have h3 := u_bits_xor
  have h4 := u_bits_andNot
  have h5 := u_add
  have h6 := u_sub
  go_enter Try.func32, Try.ntmps32
  go_wp2
  exact bodyPost_ret (v := TV (tSubV a b c d) (tSubM a b c d)) (by simp [results, Try.results32, go_sem]; first | done | rfl | exact ⟨rfl, rfl⟩) rfl ⟨rfl, (by repeat' (first | exact Below.refl _ _ | (refine Below.alloc ?_ (by simp <;> omega) _)))⟩

theorem and_any (a b c d : BitVec 64) (w : World) :
    Calls Try.prog 34 #[TV a b, TV c d] w fun e w' => e = .returned (TV (tAndV a b c d) (tAndM a b c d)) ∧ Below w.heap.size w w' := by
  have h1 := u_bits_and
  have h2 := u_bits_or
  have h3 := u_bits_xor
  have h4 := u_bits_andNot
  have h5 := u_add
  have h6 := u_sub
  go_enter Try.func34, Try.ntmps34
  go_wp2
  exact bodyPost_ret (v := TV (tAndV a b c d) (tAndM a b c d)) (by simp [results, Try.results34, go_sem]; first | done | rfl | exact ⟨rfl, rfl⟩) rfl ⟨rfl, (by repeat' (first | exact Below.refl _ _ | (refine Below.alloc ?_ (by simp <;> omega) _)))⟩

theorem or_any (a b c d : BitVec 64) (w : World) :
    Calls Try.prog 35 #[TV a b, TV c d] w fun e w' => e = .returned (TV (tOrV a b c d) (tOrM a b c d)) ∧ Below w.heap.size w w' := by
  have h1 := u_bits_and
  have h2 := u_bits_or
  have h3 := u_bits_xor
  have h4 := u_bits_andNot
  have h5 := u_add
  have h6 := u_sub
  go_enter Try.func35, Try.ntmps35
  go_wp2
  exact bodyPost_ret (v := TV (tOrV a b c d) (tOrM a b c d)) (by simp [results, Try.results35, go_sem]; first | done | rfl | exact ⟨rfl, rfl⟩) rfl ⟨rfl, (by repeat' (first | exact Below.refl _ _ | (refine Below.alloc ?_ (by simp <;> omega) _)))⟩

theorem xor_any (a b c d : BitVec 64) (w : World) :
    Calls Try.prog 36 #[TV a b, TV c d] w fun e w' => e = .returned (TV (tXorV a b c d) (tXorM a b c d)) ∧ Below w.heap.size w w' := by
  have h1 := u_bits_and
  have h2 := u_bits_or
  have h3 := u_bits_xor
  have h4 := u_bits_andNot
  have h5 := u_add
  have h6 := u_sub
  go_enter Try.func36, Try.ntmps36
  go_wp2
  exact bodyPost_ret (v := TV (tXorV a b c d) (tXorM a b c d)) (by simp [results, Try.results36, go_sem]; first | done | rfl | exact ⟨rfl, rfl⟩) rfl ⟨rfl, (by repeat' (first | exact Below.refl _ _ | (refine Below.alloc ?_ (by simp <;> omega) _)))⟩

theorem either_any (a b c d : BitVec 64) (w : World) :
    Calls Try.prog 13 #[TV a b, TV c d] w fun e w' => e = .returned (TV (tEitherV a b c d) (tEitherM a b c d)) ∧ Below w.heap.size w w' := by
  have h1 := u_bits_and
  have h2 := u_bits_or
  have h3 := u_bits_xor
  have h4 := u_bits_andNot
  have h5 := u_add
  have h6 := u_sub
  go_enter Try.func13, Try.ntmps13
  go_wp2
  exact bodyPost_ret (v := TV (tEitherV a b c d) (tEitherM a b c d)) (by simp [results, Try.results13, go_sem]; first | done | rfl | exact ⟨rfl, rfl⟩) rfl ⟨rfl, (by repeat' (first | exact Below.refl _ _ | (refine Below.alloc ?_ (by simp <;> omega) _)))⟩

theorem valid_any (a b : BitVec 64) (w : World) :
    Calls Try.prog 15 #[TV a b] w fun e w' => e = .returned (.bool (tValid a b)) ∧ Below w.heap.size w w' := by
  have h1 := u_bits_and
  have h2 := u_bits_or
  have h3 := u_bits_xor
  have h4 := u_bits_andNot
  have h5 := u_add
  have h6 := u_sub
  have h7 := u_zero
  go_enter Try.func15, Try.ntmps15
  go_wp2
  go_ret
  exact ⟨rfl, (by repeat' (first | exact Below.refl _ _ | (refine Below.alloc ?_ (by simp <;> omega) _)))⟩

theorem has_any (a b x : BitVec 64) (w : World) :
    Calls Try.prog 54 #[TV a b, .int .u64 (U x)] w fun e w' => e = .returned (.bool (tHas a b x)) ∧ Below w.heap.size w w' := by
  have h1 := u_bits_and
  have h2 := u_bits_or
  have h3 := u_bits_xor
  have h4 := u_bits_andNot
  have h5 := u_add
  have h6 := u_sub
  have h7 := u_eq
  go_enter Try.func54, Try.ntmps54
  go_wp2
  go_ret
  exact ⟨rfl, (by repeat' (first | exact Below.refl _ _ | (refine Below.alloc ?_ (by simp <;> omega) _)))⟩

theorem after {P : Program} {f : FuncId} {args : Array Value} {w0 w : World} {r : Ending} (hb : Below w0.heap.size w0 w)
    (h : Calls P f args w fun e w' => e = r ∧ Below w.heap.size w w') : Calls P f args w fun e w' => e = r ∧ Below w0.heap.size w0 w' :=
  h.mono fun _ _ ⟨he, hb'⟩ => ⟨he, hb.trans (hb'.mono hb.size)⟩

theorem cnt_any (n : Int) (w : World) : Calls Try.prog 55 #[.int .i64 n] w fun e w' => e = .returned (.int .i64 (cnt n)) ∧ w = w' := by
  have h := and63 n
  go_enter Try.func55, Try.ntmps55
  go_wp2
  go_ret
  exact ⟨rfl, rfl⟩

theorem lsh_any (a b : BitVec 64) (n : Int) (w : World) :
    Calls Try.prog 18 #[TV a b, .int .i64 n] w fun e w' => e = .returned (TV (a <<< cnt n) (b <<< cnt n)) ∧ Below w.heap.size w w' := by
  have hc := cnt_le n
  have k0 := u_shl
  go_enter Try.func18, Try.ntmps18
  go_wp2
  go_region_held3 (fun w' => w'.cell? ⟨w.heap.size, 0, none⟩ = some (.int .u64 (U a)) ∧ w'.cell? ⟨w.heap.size, 1, none⟩ = some (.int .u64 (U b))) (go_keep)
    (first | (go_at_call 55; refine (cnt_any n _).mono ?_; rintro e w' ⟨rfl, rfl⟩))
  go_wp2
  exact bodyPost_ret (v := TV (a <<< cnt n) (b <<< cnt n)) (by simp [results, Try.results18, go_sem]; first | done | rfl | exact ⟨rfl, rfl⟩) rfl ⟨rfl, (by repeat' (first | exact Below.refl _ _ | (refine Below.alloc ?_ (by simp <;> omega) _) | (refine Below.drew ?_)))⟩

theorem rsh_any (a b : BitVec 64) (n : Int) (w : World) :
    Calls Try.prog 19 #[TV a b, .int .i64 n] w fun e w' => e = .returned (TV (a >>> cnt n) (b >>> cnt n)) ∧ Below w.heap.size w w' := by
  have hc := cnt_le n
  have k0 := u_shr
  go_enter Try.func19, Try.ntmps19
  go_wp2
  go_region_held3 (fun w' => w'.cell? ⟨w.heap.size, 0, none⟩ = some (.int .u64 (U a)) ∧ w'.cell? ⟨w.heap.size, 1, none⟩ = some (.int .u64 (U b))) (go_keep)
    (first | (go_at_call 55; refine (cnt_any n _).mono ?_; rintro e w' ⟨rfl, rfl⟩))
  go_wp2
  exact bodyPost_ret (v := TV (a >>> cnt n) (b >>> cnt n)) (by simp [results, Try.results19, go_sem]; first | done | rfl | exact ⟨rfl, rfl⟩) rfl ⟨rfl, (by repeat' (first | exact Below.refl _ _ | (refine Below.alloc ?_ (by simp <;> omega) _) | (refine Below.drew ?_)))⟩

theorem arsh_any (a b : BitVec 64) (n : Int) (w : World) :
    Calls Try.prog 20 #[TV a b, .int .i64 n] w fun e w' => e = .returned (TV (a.sshiftRight (cnt n)) (b.sshiftRight (cnt n))) ∧ Below w.heap.size w w' := by
  have hc := cnt_le n
  have k0 := s_shr
  have k1 := u_to_s
  have k9 := u_to_s'
  have k2 := s_to_u
  go_enter Try.func20, Try.ntmps20
  go_wp2
  go_region_held3 (fun w' => w'.cell? ⟨w.heap.size, 0, none⟩ = some (.int .u64 (U a)) ∧ w'.cell? ⟨w.heap.size, 1, none⟩ = some (.int .u64 (U b))) (go_keep)
    (first | (go_at_call 55; refine (cnt_any n _).mono ?_; rintro e w' ⟨rfl, rfl⟩))
  go_wp2
  exact bodyPost_ret (v := TV (a.sshiftRight (cnt n)) (b.sshiftRight (cnt n))) (by simp [results, Try.results20, go_sem]; first | done | rfl | exact ⟨rfl, rfl⟩) rfl ⟨rfl, (by repeat' (first | exact Below.refl _ _ | (refine Below.alloc ?_ (by simp <;> omega) _) | (refine Below.drew ?_)))⟩

theorem tlow_any (a b : BitVec 64) (n : Int) (w : World) :
    Calls Try.prog 21 #[TV a b, .int .i64 n] w fun e w' => e = .returned (if 64 ≤ n then TV a b else TV (a &&& maskB n) (b &&& maskB n)) ∧ Below w.heap.size w w' := by
  have k1 := u_one_shl
  have k2 := u_sub_one
  have k3 := u_bits_and
  by_cases h : 64 ≤ n
  · rw [if_pos h]
    go_enter Try.func21, Try.ntmps21
    go_wp2
    exact bodyPost_ret (v := TV a b) (by simp [results, Try.results21, go_sem]; first | done | rfl | exact ⟨rfl, rfl⟩) rfl ⟨rfl, (by repeat' (first | exact Below.refl _ _ | (refine Below.alloc ?_ (by simp <;> omega) _) | (refine Below.drew ?_)))⟩
  · rw [if_neg h]
    go_enter Try.func21, Try.ntmps21
    go_wp2
    exact bodyPost_ret (v := TV (a &&& maskB n) (b &&& maskB n)) (by simp [results, Try.results21, go_sem]; first | done | rfl | exact ⟨rfl, rfl⟩) rfl ⟨rfl, (by repeat' (first | exact Below.refl _ _ | (refine Below.alloc ?_ (by simp <;> omega) _) | (refine Below.drew ?_)))⟩

set_option maxRecDepth 100000 in
theorem both_any (a b c d : BitVec 64) (w : World) :
    Calls Try.prog 14 #[TV a b, TV c d] w fun e w' => e = .returned (.tuple #[if tBothOk a b c d then TV (tBothV a b c d) (tBothM a b c d) else TV 0#64 0#64, .bool (tBothOk a b c d)]) ∧ Below w.heap.size w w' := by
  have k1 := u_bits_and
  have k2 := u_bits_or
  have k3 := u_bits_xor
  have k4 := u_bits_andNot
  have k5 := u_zero
  have k6 : ∀ x : BitVec 64, (U x != 0) = (x != 0#64) := fun x => u_ne x 0#64
  by_cases h : tBothOk a b c d = true
  · have h' : ((a ^^^ c) &&& ~~~ b &&& ~~~ d != 0#64) = false := by simpa [tBothOk] using h
    rw [h, if_pos rfl]
    clear h
    go_enter Try.func14, Try.ntmps14
    go_wp2
    exact bodyPost_ret (v := .tuple #[TV (tBothV a b c d) (tBothM a b c d), .bool true]) (by simp [results, Try.results14, go_sem]; first | done | rfl | exact ⟨rfl, rfl⟩) rfl ⟨rfl, (by repeat' (first | exact Below.refl _ _ | (refine Below.alloc ?_ (by simp <;> omega) _) | (refine Below.drew ?_)))⟩
  · have h' : ((a ^^^ c) &&& ~~~ b &&& ~~~ d != 0#64) = true := by simpa [tBothOk] using h
    have hf : tBothOk a b c d = false := by simpa using h
    rw [hf, if_neg (by decide)]
    clear h hf
    go_enter Try.func14, Try.ntmps14
    go_wp2
    exact bodyPost_ret (v := .tuple #[TV 0#64 0#64, .bool false]) (by simp [results, Try.results14, go_sem]; first | done | rfl | exact ⟨rfl, rfl⟩) rfl ⟨rfl, (by repeat' (first | exact Below.refl _ _ | (refine Below.alloc ?_ (by simp <;> omega) _) | (refine Below.drew ?_)))⟩

end Go.Proofs.Ytakemmdcaboapaa
