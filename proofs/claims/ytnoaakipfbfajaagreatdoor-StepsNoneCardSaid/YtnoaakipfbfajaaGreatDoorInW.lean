/-
  The world of chapter 21's law StepsNone: of what is laid the map of sizes alone; the contract of insns.Size. Conditions: as typed.
-/
import Derived.Test.YtnoaakipfbfajaaGreatDoorPm
import Derived.Test.YtnoaakipfbfajaaGreatDoorRows
import Derived.Test.YtnoaakipfbfajaaGreatDoorPs
import Derived.Test.YtnoaakipfbfajaaGreatDoorProg
namespace Go.Proofs.YtnoaakipfbfajaaGreatDoor
open Go.Ep Go.RowKit
set_option linter.unusedVariables false
set_option linter.unusedSimpArgs false
def sizeV (x : BitVec 8) : BitVec 64 := if x == 113#8 || x == 114#8 || x == 115#8 then 1#64 else if x == 105#8 || x == 106#8 || x == 107#8 then 2#64 else if x == 97#8 || x == 98#8 || x == 99#8 then 4#64 else if x == 121#8 || x == 122#8 || x == 123#8 then 8#64 else 0#64
def sizeH (x : BitVec 8) : Bool := x == 113#8 || x == 114#8 || x == 115#8 || x == 105#8 || x == 106#8 || x == 107#8 || x == 97#8 || x == 98#8 || x == 99#8 || x == 121#8 || x == 122#8 || x == 123#8
def GI (m : Nat → Nat) (w : World) : Prop := MapIs Tryz.prog 5 3 Rows.laid_firewall_insns_sizes w 1 (m 1)
def DI (m : Nat → Nat) : VData where
  glob := fun T g off => match off with
    | 0 => match Nat.beq T 143, Nat.beq g 1 with
      | true, true => some (.one (.gmap g (m g)))
      | _, _ => none
    | _ => none
  look := fun T ok g b key => match key with
    | .one (.b8 false x) => match Nat.beq T 143, Nat.beq g 1 with
      | true, true => match ok with
        | false => some (.p (b = m g), .one (.b64 true (sizeV x)))
        | true => none
      | _, _ => none
    | _ => none
theorem at_sizes (x : BitVec 8) (zd : DataW Unit) : (Rows.laid_firewall_insns_sizes : DataW Unit).atKey (.int .u8 (x.toNat : Int)) zd = if sizeH x then .lit (.int .i64 ((sizeV x).toInt)) else zd := by
  by_cases h113 : x = 113#8
  · subst h113; rfl
  by_cases h114 : x = 114#8
  · subst h114; rfl
  by_cases h115 : x = 115#8
  · subst h115; rfl
  by_cases h105 : x = 105#8
  · subst h105; rfl
  by_cases h106 : x = 106#8
  · subst h106; rfl
  by_cases h107 : x = 107#8
  · subst h107; rfl
  by_cases h97 : x = 97#8
  · subst h97; rfl
  by_cases h98 : x = 98#8
  · subst h98; rfl
  by_cases h99 : x = 99#8
  · subst h99; rfl
  by_cases h121 : x = 121#8
  · subst h121; rfl
  by_cases h122 : x = 122#8
  · subst h122; rfl
  by_cases h123 : x = 123#8
  · subst h123; rfl
  have e : sizeH x = false := by simp [sizeH, h113, h114, h115, h105, h106, h107, h97, h98, h99, h121, h122, h123]
  rw [e]
  have k113 : ¬ ((113 : Int) = x.toNat) := fun e => h113 (BitVec.eq_of_toNat_eq (by simp; omega))
  have k114 : ¬ ((114 : Int) = x.toNat) := fun e => h114 (BitVec.eq_of_toNat_eq (by simp; omega))
  have k115 : ¬ ((115 : Int) = x.toNat) := fun e => h115 (BitVec.eq_of_toNat_eq (by simp; omega))
  have k105 : ¬ ((105 : Int) = x.toNat) := fun e => h105 (BitVec.eq_of_toNat_eq (by simp; omega))
  have k106 : ¬ ((106 : Int) = x.toNat) := fun e => h106 (BitVec.eq_of_toNat_eq (by simp; omega))
  have k107 : ¬ ((107 : Int) = x.toNat) := fun e => h107 (BitVec.eq_of_toNat_eq (by simp; omega))
  have k97 : ¬ ((97 : Int) = x.toNat) := fun e => h97 (BitVec.eq_of_toNat_eq (by simp; omega))
  have k98 : ¬ ((98 : Int) = x.toNat) := fun e => h98 (BitVec.eq_of_toNat_eq (by simp; omega))
  have k99 : ¬ ((99 : Int) = x.toNat) := fun e => h99 (BitVec.eq_of_toNat_eq (by simp; omega))
  have k121 : ¬ ((121 : Int) = x.toNat) := fun e => h121 (BitVec.eq_of_toNat_eq (by simp; omega))
  have k122 : ¬ ((122 : Int) = x.toNat) := fun e => h122 (BitVec.eq_of_toNat_eq (by simp; omega))
  have k123 : ¬ ((123 : Int) = x.toNat) := fun e => h123 (BitVec.eq_of_toNat_eq (by simp; omega))
  simp [Rows.laid_firewall_insns_sizes, DataW.atKey, Lit.sameKey, k113, k114, k115, k105, k106, k107, k97, k98, k99, k121, k122, k123]
theorem size_none (x : BitVec 8) (h : sizeH x = false) : sizeV x = 0#64 := by
  simp only [sizeH, Bool.or_eq_false_iff] at h
  simp only [sizeV, h, Bool.or_false]
  rfl
theorem key8 (x : BitVec 8) : keyOf Tryz.prog 5 (.int .u8 (x.toNat : Int)) = some (.int .u8 (x.toNat : Int)) := by
  have := x.isLt
  exact Maps.keyOf_int_mk Tryz.underlying5 (by simp [Lit.wf, IntKind.min, IntKind.max, IntKind.bits, IntKind.signed]; omega)
theorem DI_ok (m : Nat → Nat) : DataOK Tryz.prog (GI m) (DI m) := by
  refine ⟨fun w w' h hb => h.later hb, fun T g off v h => ?_, fun T ok g b key c v h hc => ?_⟩
  · simp only [DI] at h
    split at h
    · split at h
      · rename_i h1 h2
        obtain rfl : T = 143 := by simpa using h1
        obtain rfl : g = 1 := by simpa using h2
        obtain rfl := Option.some.inj h
        exact ⟨rfl, fun w hw => ⟨_, hw.load (by kernel_rfl), fun ρ _ => rfl⟩⟩
      · cases h
    · cases h
  · simp only [DI] at h
    split at h
    · rename_i x
      split at h
      · rename_i h1 h2
        obtain rfl : T = 143 := by simpa using h1
        obtain rfl : g = 1 := by simpa using h2
        split at h
        · obtain ⟨rfl, rfl⟩ : _ ∧ _ := by simpa using h
          obtain rfl : b = m 1 := hc
          refine ⟨rfl, fun w hw ρ k hk => ?_⟩
          obtain rfl := hk (by simp)
          have hz : (zeroValue 3).run Tryz.prog w = .ok (.int .i64 0) w := by kernel_rfl
          rcases hw.look (Maps.int_keyed Tryz.underlying5) Tryz.underlying143 hz false (key8 x) with ⟨h3, h4⟩ | ⟨v, y, n, W, h3, h4, h5⟩
          · have e := h4 .nil
            rw [at_sizes] at e
            have hh : sizeH x = false := by
              cases hs : sizeH x with
              | false => rfl
              | true => rw [hs] at e; cases e
            refine ⟨_, h3, fun _ => ?_⟩
            rw [size_none x hh]; rfl
          · have e := h5 .nil
            rw [at_sizes] at e
            obtain ⟨a, rfl, e2⟩ := elem_int Tryz.underlying3 h4
            rw [e2] at e
            have hh : sizeH x = true := by
              cases hs : sizeH x with
              | true => rfl
              | false => rw [hs] at e; cases e
            rw [hh] at e
            simp only [if_true, DataW.lit.injEq, Lit.int.injEq, true_and] at e
            refine ⟨_, h3, fun _ => ?_⟩
            rw [← e]; rfl
        · cases h
      · cases h
    · cases h
theorem GI_of {W : World} (h : laidMetH Tryz.prog Rows.stepsNoneRow.laid W) : ∃ m, GI m W := by
  obtain ⟨⟨ps, h0, _⟩, _⟩ := h
  obtain ⟨⟨b1, h1⟩, _⟩ := laid_map (g := 1) (T := 143) h0 (by kernel_rfl) (by kernel_rfl) Tryz.underlying143
  exact ⟨fun _ => b1, h1⟩
abbrev tb_start : List (Nat × Sp) := []
theorem C_start (m : Nat → Nat) : CSound Tryz.prog (GI m) (tab (DI m) tb_start) := CSound.nil (DI_ok m)
def sp_Size : Sp
  | [.one (.b8 false o)] => some (Cond.t, .one (.b64 true (sizeV o)))
  | _ => none
set_option maxRecDepth 100000 in
set_option maxHeartbeats 4000000 in
theorem e_Size (m : Nat → Nat) : EntryOK Tryz.prog (GI m) 62 sp_Size := by
  refine .of_F (C_start m) (by kernel_rfl) Tryz.func62 (by kernel_rfl) (by kernel_rfl) (fun args c v h hc => ?_)
  unfold sp_Size at h
  split at h
  · rename_i o; cases h
    refine ⟨rfl, rfl, ?_⟩
    repeat' (first
      | (with_reducible apply Given.mk; intro h; (try exact absurd h (by decide)))
      | ((conv => whnf); with_reducible apply Both.mk))
    all_goals first
      | (with_reducible apply Ob.mk; kernel_rfl)
      | ((conv => whnf); exact ⟨rfl⟩)
  · cases h
abbrev tb_Size : List (Nat × Sp) := (62, sp_Size) :: tb_start
theorem C_Size (m : Nat → Nat) : CSound Tryz.prog (GI m) (tab (DI m) tb_Size) := (C_start m).cons (e_Size m)
end Go.Proofs.YtnoaakipfbfajaaGreatDoor
