/-
  Chapter 17: what the package variables scalars.ops and scalars.opposite hold. Conditions: as typed.
-/
import Derived.Test.YtkmggidgfkchfaaDoorPn
import Derived.Test.YtkmggidgfkchfaaDoorRows
namespace Go.Proofs.YtkmggidgfkchfaaDoor
open Go.Ep Go.RowKit
set_option linter.unusedVariables false
set_option linter.unusedSimpArgs false

def opH (x : BitVec 8) : Bool := x == 0#8 || x == 16#8 || x == 32#8 || x == 48#8 || x == 64#8 || x == 80#8 || x == 144#8 || x == 160#8
def vB (x : BitVec 8) : Value := if x == 0#8 then .func (.func 100) #[] #[] else if x == 16#8 then .func (.func 102) #[] #[] else if x == 32#8 then .func (.func 104) #[] #[] else if x == 48#8 then .func (.func 112) #[] #[] else if x == 64#8 then .func (.func 108) #[] #[] else if x == 80#8 then .func (.func 106) #[] #[] else if x == 144#8 then .func (.func 112) #[] #[] else if x == 160#8 then .func (.func 110) #[] #[] else .nilFunc
def vE (x : BitVec 8) : Value := if x == 0#8 then .func (.func 101) #[] #[] else if x == 16#8 then .func (.func 103) #[] #[] else if x == 32#8 then .func (.func 105) #[] #[] else if x == 48#8 then .func (.func 113) #[] #[] else if x == 64#8 then .func (.func 109) #[] #[] else if x == 80#8 then .func (.func 107) #[] #[] else if x == 144#8 then .func (.func 114) #[] #[] else if x == 160#8 then .func (.func 111) #[] #[] else .nilFunc
def nB (x : BitVec 8) : List UInt8 := if x == 0#8 then [102, 105, 114, 101, 119, 97, 108, 108, 47, 116, 110, 117, 109, 115, 46, 65, 100, 100] else if x == 16#8 then [102, 105, 114, 101, 119, 97, 108, 108, 47, 116, 110, 117, 109, 115, 46, 83, 117, 98] else if x == 32#8 then [102, 105, 114, 101, 119, 97, 108, 108, 47, 116, 110, 117, 109, 115, 46, 77, 117, 108] else if x == 48#8 then [102, 105, 114, 101, 119, 97, 108, 108, 47, 115, 99, 97, 108, 97, 114, 115, 46, 111, 112, 101, 110] else if x == 64#8 then [102, 105, 114, 101, 119, 97, 108, 108, 47, 116, 110, 117, 109, 115, 46, 79, 114] else if x == 80#8 then [102, 105, 114, 101, 119, 97, 108, 108, 47, 116, 110, 117, 109, 115, 46, 65, 110, 100] else if x == 144#8 then [102, 105, 114, 101, 119, 97, 108, 108, 47, 115, 99, 97, 108, 97, 114, 115, 46, 111, 112, 101, 110] else if x == 160#8 then [102, 105, 114, 101, 119, 97, 108, 108, 47, 116, 110, 117, 109, 115, 46, 88, 111, 114] else []
def nE (x : BitVec 8) : List UInt8 := if x == 0#8 then [102, 105, 114, 101, 119, 97, 108, 108, 47, 115, 112, 97, 110, 115, 46, 65, 100, 100] else if x == 16#8 then [102, 105, 114, 101, 119, 97, 108, 108, 47, 115, 112, 97, 110, 115, 46, 83, 117, 98] else if x == 32#8 then [102, 105, 114, 101, 119, 97, 108, 108, 47, 115, 112, 97, 110, 115, 46, 77, 117, 108] else if x == 48#8 then [102, 105, 114, 101, 119, 97, 108, 108, 47, 115, 112, 97, 110, 115, 46, 68, 105, 118] else if x == 64#8 then [102, 105, 114, 101, 119, 97, 108, 108, 47, 115, 112, 97, 110, 115, 46, 79, 114] else if x == 80#8 then [102, 105, 114, 101, 119, 97, 108, 108, 47, 115, 112, 97, 110, 115, 46, 65, 110, 100] else if x == 144#8 then [102, 105, 114, 101, 119, 97, 108, 108, 47, 115, 112, 97, 110, 115, 46, 77, 111, 100] else if x == 160#8 then [102, 105, 114, 101, 119, 97, 108, 108, 47, 115, 112, 97, 110, 115, 46, 88, 111, 114] else []
def opsE : List (Lit × DataW (List UInt8)) := [(.int .u8 0, .agg [.held [102, 105, 114, 101, 119, 97, 108, 108, 47, 116, 110, 117, 109, 115, 46, 65, 100, 100], .held [102, 105, 114, 101, 119, 97, 108, 108, 47, 115, 112, 97, 110, 115, 46, 65, 100, 100]]), (.int .u8 16, .agg [.held [102, 105, 114, 101, 119, 97, 108, 108, 47, 116, 110, 117, 109, 115, 46, 83, 117, 98], .held [102, 105, 114, 101, 119, 97, 108, 108, 47, 115, 112, 97, 110, 115, 46, 83, 117, 98]]), (.int .u8 32, .agg [.held [102, 105, 114, 101, 119, 97, 108, 108, 47, 116, 110, 117, 109, 115, 46, 77, 117, 108], .held [102, 105, 114, 101, 119, 97, 108, 108, 47, 115, 112, 97, 110, 115, 46, 77, 117, 108]]), (.int .u8 48, .agg [.held [102, 105, 114, 101, 119, 97, 108, 108, 47, 115, 99, 97, 108, 97, 114, 115, 46, 111, 112, 101, 110], .held [102, 105, 114, 101, 119, 97, 108, 108, 47, 115, 112, 97, 110, 115, 46, 68, 105, 118]]), (.int .u8 64, .agg [.held [102, 105, 114, 101, 119, 97, 108, 108, 47, 116, 110, 117, 109, 115, 46, 79, 114], .held [102, 105, 114, 101, 119, 97, 108, 108, 47, 115, 112, 97, 110, 115, 46, 79, 114]]), (.int .u8 80, .agg [.held [102, 105, 114, 101, 119, 97, 108, 108, 47, 116, 110, 117, 109, 115, 46, 65, 110, 100], .held [102, 105, 114, 101, 119, 97, 108, 108, 47, 115, 112, 97, 110, 115, 46, 65, 110, 100]]), (.int .u8 144, .agg [.held [102, 105, 114, 101, 119, 97, 108, 108, 47, 115, 99, 97, 108, 97, 114, 115, 46, 111, 112, 101, 110], .held [102, 105, 114, 101, 119, 97, 108, 108, 47, 115, 112, 97, 110, 115, 46, 77, 111, 100]]), (.int .u8 160, .agg [.held [102, 105, 114, 101, 119, 97, 108, 108, 47, 116, 110, 117, 109, 115, 46, 88, 111, 114], .held [102, 105, 114, 101, 119, 97, 108, 108, 47, 115, 112, 97, 110, 115, 46, 88, 111, 114]])]
def turnH (x : BitVec 8) : Bool := x == 16#8 || x == 32#8 || x == 48#8 || x == 80#8 || x == 96#8 || x == 112#8 || x == 160#8 || x == 176#8 || x == 192#8 || x == 208#8
def turnV (x : BitVec 8) : BitVec 8 := if x == 16#8 then 80#8 else if x == 32#8 then 176#8 else if x == 48#8 then 160#8 else if x == 80#8 then 16#8 else if x == 96#8 then 208#8 else if x == 112#8 then 192#8 else if x == 160#8 then 48#8 else if x == 176#8 then 32#8 else if x == 192#8 then 112#8 else if x == 208#8 then 96#8 else 0#8
theorem at_ops (x : BitVec 8) (zd : DataW (List UInt8)) : (DataW.map opsE).atKey (.int .u8 (x.toNat : Int)) zd = if opH x then .agg [.held (nB x), .held (nE x)] else zd := by
  by_cases h0 : x = 0#8
  · subst h0; rfl
  by_cases h1 : x = 16#8
  · subst h1; rfl
  by_cases h2 : x = 32#8
  · subst h2; rfl
  by_cases h3 : x = 48#8
  · subst h3; rfl
  by_cases h4 : x = 64#8
  · subst h4; rfl
  by_cases h5 : x = 80#8
  · subst h5; rfl
  by_cases h6 : x = 144#8
  · subst h6; rfl
  by_cases h7 : x = 160#8
  · subst h7; rfl
  have e : opH x = false := by simp [opH, h0, h1, h2, h3, h4, h5, h6, h7]
  rw [e]
  have k0 : ¬ ((0 : Int) = x.toNat) := fun e => h0 (BitVec.eq_of_toNat_eq (by simp; omega))
  have k1 : ¬ ((16 : Int) = x.toNat) := fun e => h1 (BitVec.eq_of_toNat_eq (by simp; omega))
  have k2 : ¬ ((32 : Int) = x.toNat) := fun e => h2 (BitVec.eq_of_toNat_eq (by simp; omega))
  have k3 : ¬ ((48 : Int) = x.toNat) := fun e => h3 (BitVec.eq_of_toNat_eq (by simp; omega))
  have k4 : ¬ ((64 : Int) = x.toNat) := fun e => h4 (BitVec.eq_of_toNat_eq (by simp; omega))
  have k5 : ¬ ((80 : Int) = x.toNat) := fun e => h5 (BitVec.eq_of_toNat_eq (by simp; omega))
  have k6 : ¬ ((144 : Int) = x.toNat) := fun e => h6 (BitVec.eq_of_toNat_eq (by simp; omega))
  have k7 : ¬ ((160 : Int) = x.toNat) := fun e => h7 (BitVec.eq_of_toNat_eq (by simp; omega))
  simp [opsE, DataW.atKey, Lit.sameKey, k0, k1, k2, k3, k4, k5, k6, k7]
theorem op_none (x : BitVec 8) (h : opH x = false) : vB x = .nilFunc ∧ vE x = .nilFunc := by
  simp only [opH, Bool.or_eq_false_iff] at h
  obtain ⟨⟨⟨⟨⟨⟨⟨h1, h2⟩, h3⟩, h4⟩, h5⟩, h6⟩, h7⟩, h8⟩ := h
  simp only [vB, vE, h1, h2, h3, h4, h5, h6, h7, h8]
  exact ⟨rfl, rfl⟩
theorem op_cases (x : BitVec 8) (h : opH x = true) : x = 0#8 ∨ x = 16#8 ∨ x = 32#8 ∨ x = 48#8 ∨ x = 64#8 ∨ x = 80#8 ∨ x = 144#8 ∨ x = 160#8 := by
  simpa [opH, or_assoc] using h
theorem key8 (x : BitVec 8) : keyOf Tryd.prog 5 (.int .u8 (x.toNat : Int)) = some (.int .u8 (x.toNat : Int)) := by
  have := x.isLt
  exact Maps.keyOf_int_mk Tryd.underlying5 (by simp [Lit.wf, IntKind.min, IntKind.max, IntKind.bits, IntKind.signed]; omega)
/-- What the walks need of the world. -/
def GS (m : Nat → Nat) (w : World) : Prop := MapF Tryd.prog 5 109 (.map opsE) w 1 (m 1)
def DS (m : Nat → Nat) : VData where
  glob := fun T g off => match off with
    | 0 => match Nat.beq T 111, Nat.beq g 1 with
      | true, true => some (.one (.gmap g (m g)))
      | _, _ => none
    | _ => none
  look := fun T ok g b key => match key with
    | .one (.b8 false x) => match Nat.beq T 111, Nat.beq g 1 with
      | true, true => match ok with
        | true => some (.p (b = m g), .tup [(true, [.raw (vB x), .raw (vE x)]), (false, [.bool (opH x)])])
        | false => none
      | _, _ => none
    | _ => none
theorem ops_look (m : Nat → Nat) {w : World} (hw : GS m w) (x : BitVec 8) : (Instr.lookup 111 (.map (some (m 1))) (.int .u8 (x.toNat : Int)) true).run Tryd.prog w = .ok (.tuple #[.agg #[vB x, vE x], .bool (opH x)]) w := by
  have hz : (zeroValue 109).run Tryd.prog w = .ok (.agg #[.nilFunc, .nilFunc]) w := by kernel_rfl
  rcases hw.look (Maps.int_keyed Tryd.underlying5) Tryd.underlying111 hz true (key8 x) with ⟨h3, h4⟩ | ⟨v, y, n, W, h3, h4, h5⟩
  · have e := h4 .nil
    rw [at_ops] at e
    have hh : opH x = false := by
      cases hs : opH x with
      | false => rfl
      | true => rw [hs] at e; cases e
    obtain ⟨e1, e2⟩ := op_none x hh
    rw [hh, e1, e2]; exact h3
  · have e := h5 .nil
    rw [at_ops] at e
    obtain ⟨v0, v1, mm, ⟨y0, q0⟩, ⟨y1, q1⟩, rfl, e2, e3, e4⟩ := elem_fn2 Tryd.underlying109 rfl rfl (by kernel_rfl) (by kernel_rfl) (by kernel_rfl) h4
    rw [e2] at e
    have hh : opH x = true := by
      cases hs : opH x with
      | true => rfl
      | false => rw [hs] at e; cases e
    rw [hh] at e
    simp only [if_true, DataW.agg.injEq, List.cons.injEq, and_true] at e
    obtain ⟨e5, e6⟩ := e
    subst e5 e6
    have t106 := Tryd.underlying106
    have t107 := Tryd.underlying107
    have : v0 = vB x ∧ v1 = vE x := by
      rcases op_cases x hh with rfl | rfl | rfl | rfl | rfl | rfl | rfl | rfl
      · exact ⟨func_of_trod (f0 := 100) t106 (by kernel_rfl) e3, func_of_trod (f0 := 101) t107 (by kernel_rfl) e4⟩
      · exact ⟨func_of_trod (f0 := 102) t106 (by kernel_rfl) e3, func_of_trod (f0 := 103) t107 (by kernel_rfl) e4⟩
      · exact ⟨func_of_trod (f0 := 104) t106 (by kernel_rfl) e3, func_of_trod (f0 := 105) t107 (by kernel_rfl) e4⟩
      · exact ⟨func_of_trod (f0 := 112) t106 (by kernel_rfl) e3, func_of_trod (f0 := 113) t107 (by kernel_rfl) e4⟩
      · exact ⟨func_of_trod (f0 := 108) t106 (by kernel_rfl) e3, func_of_trod (f0 := 109) t107 (by kernel_rfl) e4⟩
      · exact ⟨func_of_trod (f0 := 106) t106 (by kernel_rfl) e3, func_of_trod (f0 := 107) t107 (by kernel_rfl) e4⟩
      · exact ⟨func_of_trod (f0 := 112) t106 (by kernel_rfl) e3, func_of_trod (f0 := 114) t107 (by kernel_rfl) e4⟩
      · exact ⟨func_of_trod (f0 := 110) t106 (by kernel_rfl) e3, func_of_trod (f0 := 111) t107 (by kernel_rfl) e4⟩
    obtain ⟨rfl, rfl⟩ := this
    rw [hh]; exact h3
theorem DS_ok (m : Nat → Nat) : DataOK Tryd.prog (GS m) (DS m) := by
  refine ⟨fun w w' h hb => h.later hb, fun T g off v h => ?_, fun T ok g b key c v h hc => ?_⟩
  · simp only [DS] at h
    split at h
    · split at h
      · rename_i h1 h2
        obtain rfl : T = 111 := by simpa using h1
        obtain rfl : g = 1 := by simpa using h2
        obtain rfl := Option.some.inj h
        exact ⟨rfl, fun w hw => ⟨_, hw.load (by kernel_rfl), fun ρ _ => rfl⟩⟩
      · cases h
    · cases h
  · simp only [DS] at h
    split at h
    · rename_i x
      split at h
      · rename_i h1 h2
        obtain rfl : T = 111 := by simpa using h1
        obtain rfl : g = 1 := by simpa using h2
        split at h
        · obtain ⟨rfl, rfl⟩ : _ ∧ _ := by simpa using h
          obtain rfl : b = m 1 := hc
          refine ⟨rfl, fun w hw ρ k hk => ?_⟩
          obtain rfl := hk (by simp)
          exact ⟨_, ops_look m hw x, _, rfl, ⟨_, rfl, (relLs_cons rfl).2 ⟨_, _, rfl, fun _ => rfl, (relLs_cons rfl).2 ⟨_, _, rfl, fun _ => rfl, rfl⟩⟩⟩, fun _ => rfl, trivial⟩
        · cases h
      · cases h
    · cases h
theorem GS_of {W : World} (h : laidMetH Tryd.prog [("firewall/scalars.ops", Rows.laid_firewall_scalars_ops)] W) : ∃ m, GS m W := by
  obtain ⟨b1, h1⟩ := laid_mapF (entries := opsE) (g := 1) (T := 111) (h.funcs (List.Mem.head _)) (by kernel_rfl) (by kernel_rfl) (by kernel_rfl) Tryd.underlying111
  exact ⟨fun _ => b1, h1⟩
abbrev tb_start : List (Nat × Sp) := []
theorem C_start (m : Nat → Nat) : CSound Tryd.prog (GS m) (tab (DS m) tb_start) := CSound.nil (DS_ok m)
end Go.Proofs.YtkmggidgfkchfaaDoor
