/-
  What each operation asks for is what the model's operation does: arithmetic, comparisons, conversions, calls, values built. Conditions: as typed.
-/
import Derived.Test.YthkgakelgdncjaaDoorPd
namespace Go.Ep
open Go.RowKit
set_option linter.unusedVariables false
set_option linter.unusedSimpArgs false

section
variable {P : Program} {ρ : Nat → Loc} {t : List AV} {h : Nat → Option Blk} {a : Act} {w : World}

/-- A kind of numbers and the values of its width. -/
structure Mk (ρ : Nat → Loc) (K : IntKind) (mk : BitVec K.bits → L) : Prop where
  val : ∀ z, gL ρ (mk z) = .int K (vI K.signed z)
  ok : ∀ z, mk z ≠ .junk
  names : ∀ z, (mk z).names = []

theorem pickQ_quo {w : Nat} (s : Bool) (c : Prop) [Decidable c] (mk : BitVec w → L) (x y : BitVec w) : pickQ s c (mk (x.sdiv y)) (mk (x / y)) = some (.p c, mk (quoW s x y)) := by cases s <;> rfl
theorem pickQ_rem {w : Nat} (s : Bool) (c : Prop) [Decidable c] (mk : BitVec w → L) (x y : BitVec w) : pickQ s c (mk (x.srem y)) (mk (x % y)) = some (.p c, mk (remW s x y)) := by cases s <;> rfl
theorem pickS_lt {w : Nat} (s : Bool) (x y : BitVec w) : pickS s (L.bool (x.slt y)) (.bool (x.ult y)) = some (.t, .bool (ltW s x y)) := by cases s <;> rfl
theorem pickS_le {w : Nat} (s : Bool) (x y : BitVec w) : pickS s (L.bool (x.sle y)) (.bool (x.ule y)) = some (.t, .bool (leW s x y)) := by cases s <;> rfl
theorem pickO_shr {w : Nat} (s : Bool) (mk : BitVec w → L) (x : BitVec w) (n : Nat) : pickO s (mk (x.sshiftRight n)) (mk (x >>> n)) = some (mk (shrW s x n)) := by cases s <;> rfl
theorem bin_run {K : IntKind} {mk : BitVec K.bits → L} (M : Mk ρ K mk) {op : BinOp} {x y : BitVec K.bits} {c : Cond} {l : L} (e : binW mk K.signed op x y = some (c, l)) (hc : c.holds) (T : TypeId) :
    (binOp op T (.int K (vI K.signed x)) (.int K (vI K.signed y))).run P w = .ok (gL ρ l) w ∧ l ≠ .junk ∧ l.names = [] := by
  cases op <;> simp only [binW, pickQ_quo, pickQ_rem, pickS_lt, pickS_le, Option.some.injEq, Prod.mk.injEq, reduceCtorEq] at e <;> obtain ⟨rfl, rfl⟩ := e
  · refine ⟨?_, M.ok _, M.names _⟩; simp [binOp, Op.intArith, M.val, n_add]
  · refine ⟨?_, M.ok _, M.names _⟩; simp [binOp, Op.intArith, M.val, n_sub]
  · refine ⟨?_, M.ok _, M.names _⟩; simp [binOp, Op.intArith, M.val, n_mul]
  · refine ⟨?_, M.ok _, M.names _⟩; simp [binOp, Op.intDiv, n_zero K.signed y hc, M.val, n_quo]
  · refine ⟨?_, M.ok _, M.names _⟩; simp [binOp, Op.intDiv, n_zero K.signed y hc, M.val, n_rem]
  · refine ⟨?_, M.ok _, M.names _⟩; simp only [binOp, Op.intBits, ofInt_vI, M.val, ne_eq, not_true_eq_false, ↓reduceIte, n_back]; rfl
  · refine ⟨?_, M.ok _, M.names _⟩; simp only [binOp, Op.intBits, ofInt_vI, M.val, ne_eq, not_true_eq_false, ↓reduceIte, n_back]; rfl
  · refine ⟨?_, M.ok _, M.names _⟩; simp only [binOp, Op.intBits, ofInt_vI, M.val, ne_eq, not_true_eq_false, ↓reduceIte, n_back]; rfl
  · refine ⟨?_, M.ok _, M.names _⟩; simp only [binOp, Op.intBits, ofInt_vI, M.val, ne_eq, not_true_eq_false, ↓reduceIte, n_back]; rfl
  · refine ⟨?_, by simp, rfl⟩; simp [binOp, Op.intCmp, gL, n_eql]
  · refine ⟨?_, by simp, rfl⟩; simp [binOp, Op.intCmp, gL, bne, n_eql]
  · refine ⟨?_, by simp, rfl⟩; simp [binOp, Op.intCmp, gL, n_lt]
  · refine ⟨?_, by simp, rfl⟩; simp [binOp, Op.intCmp, gL, n_le]
  · refine ⟨?_, by simp, rfl⟩; simp [binOp, Op.intCmp, gL, n_lt]
  · refine ⟨?_, by simp, rfl⟩; simp [binOp, Op.intCmp, gL, n_le]
theorem mk64 (s : Bool) : Mk ρ (k64 s) (match s with | true => L.b64 true | false => L.b64 false) := by
  cases s <;> exact ⟨fun _ => rfl, fun _ => by simp, fun _ => rfl⟩
theorem M64u : Mk ρ .u64 (L.b64 false) := ⟨fun _ => rfl, fun _ => by simp, fun _ => rfl⟩
theorem M64i : Mk ρ .i64 (L.b64 true) := ⟨fun _ => rfl, fun _ => by simp, fun _ => rfl⟩
theorem M32u : Mk ρ .u32 (L.b32 false) := ⟨fun _ => rfl, fun _ => by simp, fun _ => rfl⟩
theorem M32i : Mk ρ .i32 (L.b32 true) := ⟨fun _ => rfl, fun _ => by simp, fun _ => rfl⟩
theorem M16u : Mk ρ .u16 (L.b16 false) := ⟨fun _ => rfl, fun _ => by simp, fun _ => rfl⟩
theorem M16i : Mk ρ .i16 (L.b16 true) := ⟨fun _ => rfl, fun _ => by simp, fun _ => rfl⟩
theorem M8u : Mk ρ .u8 (L.b8 false) := ⟨fun _ => rfl, fun _ => by simp, fun _ => rfl⟩
theorem M8i : Mk ρ .i8 (L.b8 true) := ⟨fun _ => rfl, fun _ => by simp, fun _ => rfl⟩
theorem same_some {α : Type _} {s s' : Bool} {x : Option α} {y : α} (e : same s s' x = some y) : s = s' ∧ x = some y := by
  cases s <;> cases s' <;> simp [same] at e <;> exact ⟨rfl, e⟩
/-- Shifts. -/
theorem shift_run {K : IntKind} {mk : BitVec K.bits → L} (M : Mk ρ K mk) {op : BinOp} {x : BitVec K.bits} {n : Nat} {l : L} (e : shW mk K.signed op x n = some l) (yk : IntKind) (y : Int)
    (h0 : 0 ≤ y) (hn : y.toNat = n) (T : TypeId) :
    (binOp op T (.int K (vI K.signed x)) (.int yk y)).run P w = .ok (gL ρ l) w ∧ l ≠ .junk ∧ l.names = [] := by
  have hlt : ¬ y < 0 := by omega
  cases op <;> simp only [shW, pickO_shr, Option.some.injEq, reduceCtorEq] at e <;> subst e
  · refine ⟨?_, M.ok _, M.names _⟩
    simp only [binOp, Op.shift, if_neg hlt, hn, M.val, n_shl]; rfl
  · refine ⟨?_, M.ok _, M.names _⟩
    simp only [binOp, Op.shift, if_neg hlt, hn, M.val, n_shr]; rfl
theorem amount_run {y : L} {c : Cond} {n : Nat} (e : amount y = some (c, n)) (hc : c.holds) {v : Value} (hv : RelL ρ y v) : ∃ k m, v = .int k m ∧ 0 ≤ m ∧ m.toNat = n := by
  cases y with
  | b64 s x =>
    obtain rfl := hv (by simp)
    cases s <;> simp only [amount, Option.some.injEq, Prod.mk.injEq] at e <;> obtain ⟨rfl, rfl⟩ := e
    · exact ⟨_, _, rfl, by simp [vI], by simp [vI]⟩
    · exact ⟨_, _, rfl, hc, n_toNat x hc⟩
  | b32 s x =>
    obtain rfl := hv (by simp)
    cases s <;> simp only [amount, Option.some.injEq, Prod.mk.injEq] at e <;> obtain ⟨rfl, rfl⟩ := e
    · exact ⟨_, _, rfl, by simp [vI], by simp [vI]⟩
    · exact ⟨_, _, rfl, hc, n_toNat x hc⟩
  | b16 s x =>
    obtain rfl := hv (by simp)
    cases s <;> simp only [amount, Option.some.injEq, Prod.mk.injEq] at e <;> obtain ⟨rfl, rfl⟩ := e
    · exact ⟨_, _, rfl, by simp [vI], by simp [vI]⟩
    · exact ⟨_, _, rfl, hc, n_toNat x hc⟩
  | b8 s x =>
    obtain rfl := hv (by simp)
    cases s <;> simp only [amount, Option.some.injEq, Prod.mk.injEq] at e <;> obtain ⟨rfl, rfl⟩ := e
    · exact ⟨_, _, rfl, by simp [vI], by simp [vI]⟩
    · exact ⟨_, _, rfl, hc, n_toNat x hc⟩
  | _ => simp [amount] at e
theorem binL_run {op : BinOp} {x y : L} {c : Cond} {l : L} (e : binL op x y = some (c, l)) (hc : c.holds) (T : TypeId) {u v : Value} (hx : RelL ρ x u) (hy : RelL ρ y v) :
    (binOp op T u v).run P w = .ok (gL ρ l) w ∧ l ≠ .junk ∧ l.names = [] ∧ ∃ k m, u = .int k m := by
  simp only [binL] at e
  split at e
  · simp only [shift] at e
    split at e
    · cases e
    · rename_i p n hn
      split at e
      · rename_i l' hl
        simp only [Option.some.injEq, Prod.mk.injEq] at e
        obtain ⟨rfl, rfl⟩ := e
        obtain ⟨k, m, rfl, h0, hm⟩ := amount_run hn hc hy
        split at hl
        · obtain rfl := hx (by simp)
          rename_i s x
          cases s
          · have := shift_run (P := P) (w := w) (M64u (ρ := ρ)) hl k m h0 hm T; exact ⟨this.1, this.2.1, this.2.2, _, _, rfl⟩
          · have := shift_run (P := P) (w := w) (M64i (ρ := ρ)) hl k m h0 hm T; exact ⟨this.1, this.2.1, this.2.2, _, _, rfl⟩
        · obtain rfl := hx (by simp)
          rename_i s x
          cases s
          · have := shift_run (P := P) (w := w) (M32u (ρ := ρ)) hl k m h0 hm T; exact ⟨this.1, this.2.1, this.2.2, _, _, rfl⟩
          · have := shift_run (P := P) (w := w) (M32i (ρ := ρ)) hl k m h0 hm T; exact ⟨this.1, this.2.1, this.2.2, _, _, rfl⟩
        · obtain rfl := hx (by simp)
          rename_i s x
          cases s
          · have := shift_run (P := P) (w := w) (M16u (ρ := ρ)) hl k m h0 hm T; exact ⟨this.1, this.2.1, this.2.2, _, _, rfl⟩
          · have := shift_run (P := P) (w := w) (M16i (ρ := ρ)) hl k m h0 hm T; exact ⟨this.1, this.2.1, this.2.2, _, _, rfl⟩
        · obtain rfl := hx (by simp)
          rename_i s x
          cases s
          · have := shift_run (P := P) (w := w) (M8u (ρ := ρ)) hl k m h0 hm T; exact ⟨this.1, this.2.1, this.2.2, _, _, rfl⟩
          · have := shift_run (P := P) (w := w) (M8i (ρ := ρ)) hl k m h0 hm T; exact ⟨this.1, this.2.1, this.2.2, _, _, rfl⟩
        · cases hl
      · cases e
  · split at e
    · rename_i s x s' y
      obtain ⟨hs, e2⟩ := same_some e
      subst hs
      obtain rfl := hx (by simp)
      obtain rfl := hy (by simp)
      cases s
      · have := bin_run (P := P) (w := w) (M64u (ρ := ρ)) e2 hc T; exact ⟨this.1, this.2.1, this.2.2, _, _, rfl⟩
      · have := bin_run (P := P) (w := w) (M64i (ρ := ρ)) e2 hc T; exact ⟨this.1, this.2.1, this.2.2, _, _, rfl⟩
    · rename_i s x s' y
      obtain ⟨hs, e2⟩ := same_some e
      subst hs
      obtain rfl := hx (by simp)
      obtain rfl := hy (by simp)
      cases s
      · have := bin_run (P := P) (w := w) (M32u (ρ := ρ)) e2 hc T; exact ⟨this.1, this.2.1, this.2.2, _, _, rfl⟩
      · have := bin_run (P := P) (w := w) (M32i (ρ := ρ)) e2 hc T; exact ⟨this.1, this.2.1, this.2.2, _, _, rfl⟩
    · rename_i s x s' y
      obtain ⟨hs, e2⟩ := same_some e
      subst hs
      obtain rfl := hx (by simp)
      obtain rfl := hy (by simp)
      cases s
      · have := bin_run (P := P) (w := w) (M16u (ρ := ρ)) e2 hc T; exact ⟨this.1, this.2.1, this.2.2, _, _, rfl⟩
      · have := bin_run (P := P) (w := w) (M16i (ρ := ρ)) e2 hc T; exact ⟨this.1, this.2.1, this.2.2, _, _, rfl⟩
    · rename_i s x s' y
      obtain ⟨hs, e2⟩ := same_some e
      subst hs
      obtain rfl := hx (by simp)
      obtain rfl := hy (by simp)
      cases s
      · have := bin_run (P := P) (w := w) (M8u (ρ := ρ)) e2 hc T; exact ⟨this.1, this.2.1, this.2.2, _, _, rfl⟩
      · have := bin_run (P := P) (w := w) (M8i (ρ := ρ)) e2 hc T; exact ⟨this.1, this.2.1, this.2.2, _, _, rfl⟩
    · cases e
/-- Two values of one cell held against each other by '=='. -/
theorem eqL_run {x y : L} {b : Bool} (e : eqL x y = some b) {u v : Value} (hx : RelL ρ x u) (hy : RelL ρ y v) (d : Nat) (T : TypeId)
    (hT : (∃ k, P.underlying T = some (.int k)) ∧ (∃ k m, u = .int k m) ∨ P.underlying T = some .bool ∧ ∃ b, u = .bool b) : (Op.equalIn (d + 1) T u v).run P w = .ok b w := by
  cases x with
  | b64 s x =>
    cases y <;> simp only [eqL, reduceCtorEq] at e
    obtain ⟨hs, e2⟩ := same_some e
    subst hs
    obtain rfl := hx (by simp)
    obtain rfl := hy (by simp)
    rcases hT with ⟨⟨k, hT⟩, -⟩ | ⟨hT, b, hb⟩
    · obtain rfl := Option.some.inj e2; simp [Op.equalIn, run_underlying hT, gL, n_eql]
    · simp [gL] at hb
  | b32 s x =>
    cases y <;> simp only [eqL, reduceCtorEq] at e
    obtain ⟨hs, e2⟩ := same_some e
    subst hs
    obtain rfl := hx (by simp)
    obtain rfl := hy (by simp)
    rcases hT with ⟨⟨k, hT⟩, -⟩ | ⟨hT, b, hb⟩
    · obtain rfl := Option.some.inj e2; simp [Op.equalIn, run_underlying hT, gL, n_eql]
    · simp [gL] at hb
  | b16 s x =>
    cases y <;> simp only [eqL, reduceCtorEq] at e
    obtain ⟨hs, e2⟩ := same_some e
    subst hs
    obtain rfl := hx (by simp)
    obtain rfl := hy (by simp)
    rcases hT with ⟨⟨k, hT⟩, -⟩ | ⟨hT, b, hb⟩
    · obtain rfl := Option.some.inj e2; simp [Op.equalIn, run_underlying hT, gL, n_eql]
    · simp [gL] at hb
  | b8 s x =>
    cases y <;> simp only [eqL, reduceCtorEq] at e
    obtain ⟨hs, e2⟩ := same_some e
    subst hs
    obtain rfl := hx (by simp)
    obtain rfl := hy (by simp)
    rcases hT with ⟨⟨k, hT⟩, -⟩ | ⟨hT, b, hb⟩
    · obtain rfl := Option.some.inj e2; simp [Op.equalIn, run_underlying hT, gL, n_eql]
    · simp [gL] at hb
  | bool x =>
    cases y <;> simp only [eqL, reduceCtorEq, Option.some.injEq] at e
    subst e
    obtain rfl := hx (by simp)
    obtain rfl := hy (by simp)
    rcases hT with ⟨⟨k, hT⟩, k', m, hb⟩ | ⟨hT, b, hb⟩
    · simp [gL] at hb
    · simp [Op.equalIn, run_underlying hT, gL]
  | _ => simp [eqL] at e
end
end Go.Ep
