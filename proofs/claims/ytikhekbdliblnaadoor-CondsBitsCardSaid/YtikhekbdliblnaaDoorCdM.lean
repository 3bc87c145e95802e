/-
  Conditions of jumps: what package conds and the document make of them, as bit vectors; that both are the same. What the package variables hold. Conditions: as typed.
-/
import Derived.Test.YtikhekbdliblnaaDoorKm
import Derived.Test.YtikhekbdliblnaaDoorRows
namespace Go.Proofs.YtikhekbdliblnaaDoor
open Go.Ev Go.RowKit
set_option linter.unusedVariables false
set_option linter.unusedSimpArgs false

abbrev mOne : BitVec 64 := BitVec.ofInt 64 (Int.negSucc 0)
def inO (a b c : Bool) (n : BitVec 64) : Bool := if n == mOne then a else if n == 0#64 then b else c
def cmpS (x y : BitVec 64) : BitVec 64 := if x.slt y then mOne else if y.slt x then 1#64 else 0#64
def cmpU (x y : BitVec 64) : BitVec 64 := if x.ult y then mOne else if y.ult x then 1#64 else 0#64
def pLow (v n : BitVec 64) : BitVec 64 := if (64#64).sle n then v else v &&& (1#64 <<< (if n.slt 0#64 then 0#64 else n).toNat - 1#64)
def pSign (v n : BitVec 64) : BitVec 64 := if n.sle 0#64 then 0#64 else (v <<< (64#64 - (if (64#64).slt n then 64#64 else n)).toNat).sshiftRight (64#64 - (if (64#64).slt n then 64#64 else n)).toNat
def signH (x : BitVec 8) : Bool := x == 96#8 || x == 112#8 || x == 192#8 || x == 208#8
def signV (x : BitVec 8) : BitVec 8 := if x == 96#8 then 32#8 else if x == 112#8 then 48#8 else if x == 192#8 then 160#8 else if x == 208#8 then 176#8 else 0#8
def ordH (x : BitVec 8) : Bool := x == 16#8 || x == 80#8 || x == 32#8 || x == 48#8 || x == 160#8 || x == 176#8
def ordL (x : BitVec 8) : Bool := x == 80#8 || x == 160#8 || x == 176#8
def ordS (x : BitVec 8) : Bool := x == 16#8 || x == 48#8 || x == 176#8
def ordM (x : BitVec 8) : Bool := x == 80#8 || x == 32#8 || x == 48#8
def wid (w : Bool) : BitVec 64 := if w then 64#64 else 32#64
def cHolds (o : BitVec 8) (w : Bool) (a b : BitVec 64) : Bool :=
  if signH o then inO (ordL (signV o)) (ordS (signV o)) (ordM (signV o)) (cmpS (pSign a (if w then 64#64 else 32#64)) (pSign b (if w then 64#64 else 32#64)))
  else if ordH o then inO (ordL o) (ordS o) (ordM o) (cmpU (pLow a (if w then 64#64 else 32#64)) (pLow b (if w then 64#64 else 32#64)))
  else o == 0#8 || o == 64#8 && (pLow a (if w then 64#64 else 32#64) &&& pLow b (if w then 64#64 else 32#64)) != 0#64
theorem pow_succ' (k : Nat) : (1#64 <<< k) * 2#64 = 1#64 <<< (k + 1) := by
  rw [BitVec.shiftLeft_add, BitVec.shiftLeft_eq_mul_twoPow _ 1]; rfl
def rLow (v n : BitVec 64) : BitVec 64 := if (64#64).sle n = true then v else if n.sle 0#64 = true then 0#64 else v % (1#64 <<< n.toNat)
theorem sle_lt {n : BitVec 64} (h : (64#64).sle n = false) (h' : n.sle 0#64 = false) : n.toNat < 64 := by
  have h1 : ¬ ((64#64).sle n = true) := by rw [h]; decide
  have h2 : ¬ (n.sle 0#64 = true) := by rw [h']; decide
  rw [BitVec.sle_iff_toInt_le] at h1 h2
  have e1 : (64#64).toInt = 64 := rfl
  have e2 : (0#64).toInt = 0 := rfl
  rw [e1] at h1; rw [e2] at h2
  have := n.isLt
  rw [BitVec.toInt_eq_toNat_cond] at h1 h2
  split at h1 <;> omega
theorem pow_ne {m : Nat} (h : m < 64) : 1#64 <<< m ≠ 0#64 := by
  intro e
  have e2 := congrArg BitVec.toNat e
  have h2 : 2 ^ m < 2 ^ 64 := Nat.pow_lt_pow_right (by decide) h
  have h3 : 0 < 2 ^ m := Nat.two_pow_pos m
  rw [BitVec.toNat_shiftLeft, Nat.shiftLeft_eq] at e2
  simp only [BitVec.toNat_ofNat, Nat.one_mod, Nat.one_mul] at e2
  rw [Nat.mod_eq_of_lt (by simpa using h2)] at e2
  simp at e2
/-- A number with its highest bit turned over, as the document has it; h: that bit. -/
def flip (a h : BitVec 64) : BitVec 64 := (a + h) % h + h - a / h * h
def rHolds (o : BitVec 8) (w : Bool) (a b : BitVec 64) : Bool :=
  if o == 0#8 then true else if o == 16#8 then rLow a (wid w) == rLow b (wid w) else if o == 80#8 then rLow a (wid w) != rLow b (wid w)
  else if o == 32#8 then (rLow b (wid w)).ult (rLow a (wid w)) else if o == 48#8 then (rLow b (wid w)).ule (rLow a (wid w))
  else if o == 160#8 then (rLow a (wid w)).ult (rLow b (wid w)) else if o == 176#8 then (rLow a (wid w)).ule (rLow b (wid w))
  else if o == 96#8 then (flip (rLow b (wid w)) (1#64 <<< (wid w - 1#64).toNat)).ult (flip (rLow a (wid w)) (1#64 <<< (wid w - 1#64).toNat))
  else if o == 112#8 then (flip (rLow b (wid w)) (1#64 <<< (wid w - 1#64).toNat)).ule (flip (rLow a (wid w)) (1#64 <<< (wid w - 1#64).toNat))
  else if o == 192#8 then (flip (rLow a (wid w)) (1#64 <<< (wid w - 1#64).toNat)).ult (flip (rLow b (wid w)) (1#64 <<< (wid w - 1#64).toNat))
  else if o == 208#8 then (flip (rLow a (wid w)) (1#64 <<< (wid w - 1#64).toNat)).ule (flip (rLow b (wid w)) (1#64 <<< (wid w - 1#64).toNat))
  else if o == 64#8 then (0#64).ult (rLow a (wid w) &&& rLow b (wid w)) else false

/-! ### What the package variables hold -/
def GC (m : Nat → Nat) (w : World) : Prop := MapIs Tryd.prog 5 5 Rows.laid_firewall_conds_signed w 0 (m 0) ∧ MapIs Tryd.prog 5 41 Rows.laid_firewall_conds_orders w 1 (m 1)
def DC (m : Nat → Nat) : VData where
  glob := fun T g off => match off with
    | 0 => match Nat.beq T 39, Nat.beq g 0 with
      | true, true => some (.one (.gmap g (m g)))
      | _, _ => match Nat.beq T 42, Nat.beq g 1 with
        | true, true => some (.one (.gmap g (m g)))
        | _, _ => none
    | _ => none
  look := fun T ok g b key => match key with
    | .one (.b8 false x) => match Nat.beq T 39, Nat.beq g 0 with
      | true, true => match ok with
        | true => some (.p (b = m g), .tup [(false, [.b8 false (signV x)]), (false, [.bool (signH x)])])
        | false => none
      | _, _ => match Nat.beq T 42, Nat.beq g 1 with
        | true, true => match ok with
          | true => some (.p (b = m g), .tup [(true, [.bool (ordL x), .bool (ordS x), .bool (ordM x)]), (false, [.bool (ordH x)])])
          | false => some (.p (b = m g), .agg [.bool (ordL x), .bool (ordS x), .bool (ordM x)])
        | _, _ => none
    | _ => none
theorem at_signed (x : BitVec 8) (zd : DataW Unit) : (Rows.laid_firewall_conds_signed : DataW Unit).atKey (.int .u8 (x.toNat : Int)) zd = if signH x then .lit (.int .u8 ((signV x).toNat : Int)) else zd := by
  by_cases h1 : x = 96#8
  · subst h1; rfl
  by_cases h2 : x = 112#8
  · subst h2; rfl
  by_cases h3 : x = 192#8
  · subst h3; rfl
  by_cases h4 : x = 208#8
  · subst h4; rfl
  have e : signH x = false := by simp [signH, h1, h2, h3, h4]
  rw [e]
  have k1 : ¬ ((96 : Int) = x.toNat) := fun e => h1 (BitVec.eq_of_toNat_eq (by simp; omega))
  have k2 : ¬ ((112 : Int) = x.toNat) := fun e => h2 (BitVec.eq_of_toNat_eq (by simp; omega))
  have k3 : ¬ ((192 : Int) = x.toNat) := fun e => h3 (BitVec.eq_of_toNat_eq (by simp; omega))
  have k4 : ¬ ((208 : Int) = x.toNat) := fun e => h4 (BitVec.eq_of_toNat_eq (by simp; omega))
  simp [Rows.laid_firewall_conds_signed, DataW.atKey, Lit.sameKey, k1, k2, k3, k4]
theorem at_orders (x : BitVec 8) (zd : DataW Unit) : (Rows.laid_firewall_conds_orders : DataW Unit).atKey (.int .u8 (x.toNat : Int)) zd = if ordH x then .agg [.lit (.bool (ordL x)), .lit (.bool (ordS x)), .lit (.bool (ordM x))] else zd := by
  by_cases h1 : x = 16#8
  · subst h1; rfl
  by_cases h2 : x = 80#8
  · subst h2; rfl
  by_cases h3 : x = 32#8
  · subst h3; rfl
  by_cases h4 : x = 48#8
  · subst h4; rfl
  by_cases h5 : x = 160#8
  · subst h5; rfl
  by_cases h6 : x = 176#8
  · subst h6; rfl
  have e : ordH x = false := by simp [ordH, h1, h2, h3, h4, h5, h6]
  rw [e]
  have k1 : ¬ ((16 : Int) = x.toNat) := fun e => h1 (BitVec.eq_of_toNat_eq (by simp; omega))
  have k2 : ¬ ((80 : Int) = x.toNat) := fun e => h2 (BitVec.eq_of_toNat_eq (by simp; omega))
  have k3 : ¬ ((32 : Int) = x.toNat) := fun e => h3 (BitVec.eq_of_toNat_eq (by simp; omega))
  have k4 : ¬ ((48 : Int) = x.toNat) := fun e => h4 (BitVec.eq_of_toNat_eq (by simp; omega))
  have k5 : ¬ ((160 : Int) = x.toNat) := fun e => h5 (BitVec.eq_of_toNat_eq (by simp; omega))
  have k6 : ¬ ((176 : Int) = x.toNat) := fun e => h6 (BitVec.eq_of_toNat_eq (by simp; omega))
  simp [Rows.laid_firewall_conds_orders, DataW.atKey, Lit.sameKey, k1, k2, k3, k4, k5, k6]
theorem ord_none (x : BitVec 8) (h : ordH x = false) : ordL x = false ∧ ordS x = false ∧ ordM x = false := by
  simp only [ordH, Bool.or_eq_false_iff] at h
  obtain ⟨⟨⟨⟨⟨h1, h2⟩, h3⟩, h4⟩, h5⟩, h6⟩ := h
  simp only [ordL, ordS, ordM, h1, h2, h3, h4, h5, h6]
  exact ⟨rfl, rfl, rfl⟩
theorem sign_none (x : BitVec 8) (h : signH x = false) : signV x = 0#8 := by
  simp only [signH, Bool.or_eq_false_iff] at h
  obtain ⟨⟨⟨h1, h2⟩, h3⟩, h4⟩ := h
  simp only [signV, h1, h2, h3, h4]
  rfl
theorem key8 (x : BitVec 8) : keyOf Tryd.prog 5 (.int .u8 (x.toNat : Int)) = some (.int .u8 (x.toNat : Int)) := by
  have := x.isLt
  exact Maps.keyOf_int_mk Tryd.underlying5 (by simp [Lit.wf, IntKind.min, IntKind.max, IntKind.bits, IntKind.signed]; omega)
theorem DC_ok (m : Nat → Nat) : DataOK Tryd.prog (GC m) (DC m) := by
  refine ⟨fun w w' h hb => ⟨h.1.later hb, h.2.later hb⟩, fun T g off v h => ?_, fun T ok g b key c v h hc => ?_⟩
  · simp only [DC] at h
    split at h
    · split at h
      · rename_i h1 h2
        obtain rfl : T = 39 := by simpa using h1
        obtain rfl : g = 0 := by simpa using h2
        obtain rfl := Option.some.inj h
        exact ⟨rfl, fun w hw => ⟨_, hw.1.load (by kernel_rfl), fun ρ _ => rfl⟩⟩
      · split at h
        · rename_i h1 h2
          obtain rfl : T = 42 := by simpa using h1
          obtain rfl : g = 1 := by simpa using h2
          obtain rfl := Option.some.inj h
          exact ⟨rfl, fun w hw => ⟨_, hw.2.load (by kernel_rfl), fun ρ _ => rfl⟩⟩
        · cases h
    · cases h
  · simp only [DC] at h
    split at h
    · rename_i x
      split at h
      · rename_i h1 h2
        obtain rfl : T = 39 := by simpa using h1
        obtain rfl : g = 0 := by simpa using h2
        split at h
        · obtain ⟨rfl, rfl⟩ : _ ∧ _ := by simpa using h
          obtain rfl : b = m 0 := hc
          refine ⟨rfl, fun w hw ρ k hk => ?_⟩
          obtain rfl := hk (by simp)
          have hz : (zeroValue 5).run Tryd.prog w = .ok (.int .u8 0) w := by kernel_rfl
          rcases hw.1.look (Maps.int_keyed Tryd.underlying5) Tryd.underlying39 hz true (key8 x) with ⟨h3, h4⟩ | ⟨v, y, n, W, h3, h4, h5⟩
          · have e := h4 .nil
            rw [at_signed] at e
            have hh : signH x = false := by
              cases hs : signH x with
              | false => rfl
              | true => rw [hs] at e; cases e
            refine ⟨_, h3, _, rfl, fun _ => ?_, fun _ => ?_, trivial⟩
            · rw [sign_none x hh]; rfl
            · rw [hh]; rfl
          · have e := h5 .nil
            rw [at_signed] at e
            obtain ⟨a, rfl, e2⟩ := elem_int Tryd.underlying5 h4
            rw [e2] at e
            have hh : signH x = true := by
              cases hs : signH x with
              | true => rfl
              | false => rw [hs] at e; cases e
            rw [hh] at e
            simp only [if_true, DataW.lit.injEq, Lit.int.injEq, true_and] at e
            refine ⟨_, h3, _, rfl, fun _ => ?_, fun _ => ?_, trivial⟩
            · rw [← e]; rfl
            · rw [hh]; rfl
        · cases h
      · split at h
        · rename_i h1 h2
          obtain rfl : T = 42 := by simpa using h1
          obtain rfl : g = 1 := by simpa using h2
          have key : ∀ (w : World), GC m w → ∀ c : Bool, (Instr.lookup 42 (.map (some (m 1))) (.int .u8 (x.toNat : Int)) c).run Tryd.prog w =
              .ok (if c then .tuple #[.agg #[.bool (ordL x), .bool (ordS x), .bool (ordM x)], .bool (ordH x)] else .agg #[.bool (ordL x), .bool (ordS x), .bool (ordM x)]) w := by
            intro w hw c
            have hz : (zeroValue 41).run Tryd.prog w = .ok (.agg #[.bool false, .bool false, .bool false]) w := by kernel_rfl
            rcases hw.2.look (Maps.int_keyed Tryd.underlying5) Tryd.underlying42 hz c (key8 x) with ⟨h3, h4⟩ | ⟨v, y, n, W, h3, h4, h5⟩
            · have e := h4 .nil
              rw [at_orders] at e
              have hh : ordH x = false := by
                cases hs : ordH x with
                | false => rfl
                | true => rw [hs] at e; cases e
              obtain ⟨e1, e2, e3⟩ := ord_none x hh
              rw [hh, e1, e2, e3]; exact h3
            · have e := h5 .nil
              rw [at_orders] at e
              obtain ⟨p, q, r, rfl, e2⟩ := elem_bool3 Tryd.underlying41 rfl rfl rfl Tryd.underlying4 Tryd.underlying4 Tryd.underlying4 (by kernel_rfl) (by kernel_rfl) (by kernel_rfl) (by kernel_rfl) h4
              rw [e2] at e
              have hh : ordH x = true := by
                cases hs : ordH x with
                | true => rfl
                | false => rw [hs] at e; cases e
              rw [hh] at e
              simp only [if_true, DataW.agg.injEq, List.cons.injEq, DataW.lit.injEq, Lit.bool.injEq, and_true] at e
              obtain ⟨e4, e5, e6⟩ := e
              rw [hh, e4, e5, e6]; exact h3
          split at h
          · obtain ⟨rfl, rfl⟩ : _ ∧ _ := by simpa using h
            obtain rfl : b = m 1 := hc
            refine ⟨rfl, fun w hw ρ k hk => ?_⟩
            obtain rfl := hk (by simp)
            exact ⟨_, key w hw true, _, rfl, ⟨_, rfl, fun _ => rfl, fun _ => rfl, fun _ => rfl, trivial⟩, fun _ => rfl, trivial⟩
          · obtain ⟨rfl, rfl⟩ : _ ∧ _ := by simpa using h
            obtain rfl : b = m 1 := hc
            refine ⟨rfl, fun w hw ρ k hk => ?_⟩
            obtain rfl := hk (by simp)
            exact ⟨_, key w hw false, _, rfl, fun _ => rfl, fun _ => rfl, fun _ => rfl, trivial⟩
        · cases h
    · cases h
theorem GC_of {W : World} (h : laidMetH Tryd.prog [("firewall/conds.orders", Rows.laid_firewall_conds_orders), ("firewall/conds.signed", Rows.laid_firewall_conds_signed)] W) : ∃ m, GC m W := by
  rw [MakeChecks.laidMetH_plain _ _ _ (by kernel_rfl)] at h
  obtain ⟨ps, h, _⟩ := h
  obtain ⟨⟨b1, h1⟩, q, h⟩ := laid_map (g := 1) (T := 42) h (by kernel_rfl) (by kernel_rfl) Tryd.underlying42
  obtain ⟨⟨b2, h2⟩, _⟩ := laid_map (g := 0) (T := 39) h (by kernel_rfl) (by kernel_rfl) Tryd.underlying39
  exact ⟨fun g => if g = 0 then b2 else b1, h2, h1⟩
abbrev tb_start : List (Nat × Sp) := []
theorem C_start (m : Nat → Nat) : CSound Tryd.prog (GC m) (tab (DC m) tb_start) := CSound.nil (DC_ok m)
end Go.Proofs.YtikhekbdliblnaaDoor
