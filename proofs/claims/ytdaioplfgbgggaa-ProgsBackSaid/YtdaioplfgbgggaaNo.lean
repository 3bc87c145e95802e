/-
  Chapter 04: programs as bytes and back: mathematics. Conditions: as each says.
-/
import Derived.Test.YtdaioplfgbgggaaNn
namespace Go.Proofs.Ytdaioplfgbgggaa
open Go.Ep Go.RowKit
set_option linter.unusedVariables false
set_option linter.unusedSimpArgs false
theorem dropU_eq : ∀ (xs : List UInt8) (n : Nat), dropU xs n = xs.drop n
  | xs, 0 => by cases xs <;> rfl
  | [], n + 1 => rfl
  | _ :: xs, n + 1 => by rw [dropU, dropU_eq xs n]; rfl
theorem takeU_eq : ∀ (xs : List UInt8) (n : Nat), takeU xs n = xs.take n
  | xs, 0 => by cases xs <;> rfl
  | [], n + 1 => rfl
  | _ :: xs, n + 1 => by rw [takeU, takeU_eq xs n]; rfl
theorem exB_eq (s : ByteArray) (l h : Nat) : exB s l h = ⟨⟨(s.data.toList.drop l).take (h - l)⟩⟩ := by rw [exB, takeU_eq, dropU_eq]
abbrev eOf (x : IN) : ByteArray := iEnc x.o x.d x.s x.f x.i
theorem encL_part (x : IT) : ∀ {n i : Nat}, i < n → ((encL x n).drop (8 * i)).take 8 = (eOf (x i)).data.toList
  | 0, i, h => absurd h (by omega)
  | n + 1, i, h => by
    have hl := encL_len x n
    show ((encL x n ++ (eOf (x n)).data.toList).drop (8 * i)).take 8 = _
    by_cases hi : i < n
    · rw [List.drop_append_of_le_length (by omega), List.take_append_of_le_length (by simp [hl]; omega)]
      exact encL_part x hi
    · obtain rfl : i = n := by omega
      rw [List.drop_append, List.drop_of_length_le (by omega), hl]
      simp only [Nat.sub_self, List.nil_append, List.drop_zero]
      exact List.take_of_length_le (Nat.le_refl 8)
theorem exB_enc (x : IT) {n i : Nat} (h : i < n) : exB (encB x n) (8 * i) (8 * i + 8) = eOf (x i) := by
  rw [exB_eq, show 8 * i + 8 - 8 * i = 8 by omega]
  show (⟨⟨((encL x n).drop (8 * i)).take 8⟩⟩ : ByteArray) = _
  rw [encL_part x h]
theorem dec_of_enc (x : IT) {n i : Nat} (h : i < n) : dec (encB x n) i = ⟨(x i).o, (x i).d &&& 15#8, (x i).s &&& 15#8, (x i).f, (x i).i⟩ := by
  obtain ⟨h1, h2, h3, h4, h5, -⟩ := dec_enc (x i).o (x i).d (x i).s (x i).f (x i).i
  rw [dec, exB_enc x h, h1, h2, h3, h4, h5]
theorem enc_of_dec8 (e : ByteArray) (h : e.size = 8) : iEnc (dcO e) (dcD e) (dcS e) (dcF e) (dcI e) = e := by
  obtain ⟨⟨l⟩⟩ := e
  have h : l.length = 8 := h
  match l, h with
  | [b0, b1, b2, b3, b4, b5, b6, b7], _ =>
    exact enc_dec b0.toBitVec b1.toBitVec b2.toBitVec b3.toBitVec b4.toBitVec b5.toBitVec b6.toBitVec b7.toBitVec
theorem encL_dec (s : ByteArray) (y : IT) {n : Nat} (hs : s.size = 8 * n) (hy : ∀ i, i < n → y i = dec s i) : ∀ k, k ≤ n → encL y k = s.data.toList.take (8 * k)
  | 0, _ => by simp [encL]
  | k + 1, h => by
    have e8 : (exB s (8 * k) (8 * k + 8)).size = 8 := by rw [exB_size]; omega
    have e : eOf (y k) = exB s (8 * k) (8 * k + 8) := by rw [hy k (by omega)]; exact enc_of_dec8 _ e8
    show encL y k ++ (eOf (y k)).data.toList = _
    rw [encL_dec s y hs hy k (by omega), e, exB_eq, show 8 * k + 8 - 8 * k = 8 by omega, show 8 * (k + 1) = 8 * k + 8 by omega, List.take_add]
theorem encB_dec (s : ByteArray) {n : Nat} (hs : s.size = 8 * n) : encB (upT (dec s) n) n = s := by
  rw [encB, encL_dec s _ hs (fun i hi => upT_lt _ hi) n (Nat.le_refl _), List.take_of_length_le (by show s.size ≤ _; omega)]
/-- Are the registers of the first k small? -/
def smB (x : IT) : Nat → Bool
  | 0 => true
  | k + 1 => smB x k && ((x k).d.ult 16#8 && (x k).s.ult 16#8)
theorem sm_go1 (x : IT) {k k' : Nat} (e : k' = k) (h1 : smB x k = true) (h2 : (x k').d.ult 16#8 = true) : AV.one (.bool ((x k').s.ult 16#8)) = .one (.bool (smB x (k + 1))) := by
  subst e; rw [smB, h1, h2]; rfl
theorem sm_go2 (x : IT) {k k' : Nat} (e : k' = k) (h1 : smB x k = true) (h2 : (x k').d.ult 16#8 = false) : AV.one (.bool false) = .one (.bool (smB x (k + 1))) := by
  subst e; rw [smB, h1, h2]; rfl
theorem sm_go3 (x : IT) {k : Nat} (h1 : smB x k = false) : AV.one (.bool false) = .one (.bool (smB x (k + 1))) := by
  rw [smB, h1]; rfl
theorem smB_le (x : IT) {n : Nat} (h : smB x n = true) : ∀ {i}, i < n → (x i).d.ult 16#8 = true ∧ (x i).s.ult 16#8 = true := by
  induction n with
  | zero => intro i hi; omega
  | succ n ih =>
    intro i hi
    simp only [smB, Bool.and_eq_true] at h
    by_cases e : i = n
    · subst e; exact h.2
    · exact ih h.1 (by omega)
theorem smB_of (x : IT) : ∀ {n : Nat}, (∀ i, i < n → (x i).d.ult 16#8 = true ∧ (x i).s.ult 16#8 = true) → smB x n = true
  | 0, _ => rfl
  | n + 1, h => by rw [smB, smB_of x fun i hi => h i (by omega), (h n (by omega)).1, (h n (by omega)).2]; rfl
/-- Is the instruction that is decoded the one that was encoded? -/
def eqI (x : IT) (n i : Nat) : Bool := (((upT (dec (encB x n)) n i).o == (x i).o) && (((upT (dec (encB x n)) n i).d == (x i).d) && (((upT (dec (encB x n)) n i).s == (x i).s) && (((upT (dec (encB x n)) n i).f == (x i).f) && ((upT (dec (encB x n)) n i).i == (x i).i)))))
theorem eqI_eq (x : IT) {n i : Nat} (h : i < n) : eqI x n i = ((x i).d.ult 16#8 && (x i).s.ult 16#8) := by
  rw [eqI, upT_lt _ h, dec_of_enc x h, small15, small15]
  simp
theorem eqI_no (x : IT) {n i : Nat} (h : i < n) (he : (!(eqI x n i)) = true) : smB x n = false := by
  cases hs : smB x n with
  | false => rfl
  | true =>
    obtain ⟨h1, h2⟩ := smB_le x hs h
    rw [eqI_eq x h, h1, h2] at he; cases he
end Go.Proofs.Ytdaioplfgbgggaa
