/-
  Chapter 11: the program's Decode: a contract. Conditions: as typed.
-/
import Derived.Test.YtppankimieopiaaDoorDg
import Derived.Test.YtppankimieopiaaDoorCh

namespace Go.Proofs.YtppankimieopiaaDoor
open Go.Ep Go.RowKit
set_option linter.unusedVariables false
set_option linter.unusedSimpArgs false
/-- Are bytes, of a kind, what is guessed of them? -/
def hit (k : Nat) (t : ByteArray) : Bool := vX (G k t) && pre t (eX (G k t))
/-- The first kind, of so many from k on, of which they are; 0: none. -/
def fnd (t : ByteArray) : Nat → Nat → Nat
  | 0, _ => 0
  | n + 1, k => if hit k t then k else fnd t n (k + 1)
def decK (t : ByteArray) : Nat := fnd t 21 1
def X0 : MX := ⟨0#64, 0#64, 0#64, 0#64, false, false, 0#64, 0#64, 0#32, 0#32, 0#64⟩
def XK (k : Nat) (t : ByteArray) : MX := match k with
  | 0 => X0
  | k + 1 => G (k + 1) t
def badA (s : ByteArray) (a : BitVec 64) : Bool := a.slt 0#64 || (BitVec.ofNat 64 s.size).sle a
def kA (s : ByteArray) (a : BitVec 64) : Nat := if badA s a then 0 else decK (exB s a.toNat s.size)
def xA (s : ByteArray) (a : BitVec 64) : MX := XK (kA s a) (exB s a.toNat s.size)
def nA (s : ByteArray) (a : BitVec 64) : BitVec 64 := if kA s a = 0 then 0#64 else BitVec.ofNat 64 (eX (xA s a)).size
def eA (s : ByteArray) (a : BitVec 64) : BitVec 64 := if kA s a = 0 then 110#64 else 0#64
def sp_Decode : Sp
  | [.one (.str s), .one (.b64 true a)] => some (Cond.p (s.size < 9223372036854775808), .tup [(true, LX (xA s a)), (false, [.b64 true (nA s a)]), (false, [.b64 true (eA s a)])])
  | _ => none
abbrev tb_D (m : Nat → Nat) : List (Nat × Sp) := (63, sp_guess) :: (18, sp_EncV) :: (20, sp_ValV) :: tb_size m
theorem C_D (G2 : World → Prop) (D2 : VData) (k2 : DataOK Tryd.prog G2 D2) (m : Nat → Nat) : CSound Tryd.prog (GN m G2) (tab (DN m D2) (tb_D m)) := (((C_size G2 D2 k2 m).cons (e_ValV G2 D2 k2 m)).cons (e_EncV G2 D2 k2 m)).cons (e_guess G2 D2 k2 m)
theorem at_ok {s : ByteArray} {a : BitVec 64} (hs : s.size < 9223372036854775808) (h : badA s a = false) : 0 ≤ a.toInt ∧ a.toNat ≤ s.size ∧ s.size ≤ s.size := by
  unfold badA at h
  rw [Bool.or_eq_false_iff] at h
  obtain ⟨h1, h2⟩ := h
  have z : (0#64).toInt = 0 := rfl
  rw [BitVec.slt_eq_decide, decide_eq_false_iff_not, z] at h1
  rw [BitVec.sle_eq_decide, decide_eq_false_iff_not, toInt_ofNat hs] at h2
  have e : a.toInt = (a.toNat : Int) := by
    rw [BitVec.toInt_eq_toNat_cond] at h1 ⊢
    split
    · rfl
    · rename_i hn; rw [if_neg hn] at h1; have := a.isLt; omega
  omega
theorem k_nat {j : Nat} (h : j < 21) : (BitVec.ofNat 64 (j + 1)).toNat = j + 1 := by rw [BitVec.toNat_ofNat, Nat.mod_eq_of_lt (by omega)]
theorem k_lt {j : Nat} (h : j < 21) : (BitVec.ofNat 64 (j + 1)).slt 22#64 = true := by
  rw [BitVec.slt_iff_toInt_lt, toInt_ofNat (by omega)]
  show ((j + 1 : Nat) : Int) < 22
  omega
theorem exB_lt {s : ByteArray} {l : Nat} (h : s.size < 9223372036854775808) : (exB s l s.size).size < 9223372036854775808 := Nat.lt_of_le_of_lt (exB_le s l) h
theorem vX_le {x : MX} {b : Bool} (h : vX x = b) : vld x.k x.al x.cc x.sz x.w x.sh x.d x.s x.dp x.rl x.im = b := h
theorem i1 (j : Nat) : BitVec.ofNat 64 (j + 1) + 1#64 = BitVec.ofNat 64 (j + 1 + 1) := by rw [BitVec.ofNat_add (j + 1) 1]
/-- Where Decode's loop stands. -/
structure DL (t : ByteArray) (j : Nat) : Prop where
  le : j ≤ 21
  eq : decK t = fnd t (21 - j) (j + 1)
theorem DL.start (t : ByteArray) : DL t 0 := ⟨by decide, rfl⟩
theorem DL.next {t : ByteArray} {j : Nat} (h : DL t j) (hj : j < 21) (hn : hit (j + 1) t = false) : DL t (j + 1) := by
  refine ⟨hj, ?_⟩
  rw [h.eq, show 21 - j = (21 - (j + 1)) + 1 by omega, fnd, hn]
  rfl
theorem DL.here {t : ByteArray} {j : Nat} (h : DL t j) (hj : j < 21) (hn : hit (j + 1) t = true) : decK t = j + 1 := by
  rw [h.eq, show 21 - j = (21 - (j + 1)) + 1 by omega, fnd, hn]
  rfl
theorem DL.stop {t : ByteArray} (h : DL t 21) : decK t = 0 := by rw [h.eq]; rfl
theorem kA_eq {s : ByteArray} {a : BitVec 64} (hb : badA s a = false) : kA s a = decK (exB s a.toNat s.size) := by
  unfold kA
  rw [hb, if_neg (by decide)]
theorem xA_0 {s : ByteArray} {a : BitVec 64} (hb : badA s a = false) (h : decK (exB s a.toNat s.size) = 0) : xA s a = X0 ∧ nA s a = 0#64 ∧ eA s a = 110#64 := by
  have hk : kA s a = 0 := by rw [kA_eq hb, h]
  unfold xA nA eA
  rw [hk, if_pos rfl, if_pos rfl]
  exact ⟨rfl, rfl, rfl⟩
theorem xA_1 {s : ByteArray} {a : BitVec 64} {j : Nat} (hb : badA s a = false) (h : decK (exB s a.toNat s.size) = j + 1) : xA s a = G (j + 1) (exB s a.toNat s.size) ∧ nA s a = BitVec.ofNat 64 (eX (G (j + 1) (exB s a.toNat s.size))).size ∧ eA s a = 0#64 := by
  have hk : kA s a = j + 1 := by rw [kA_eq hb, h]
  have hx : xA s a = G (j + 1) (exB s a.toNat s.size) := by unfold xA; rw [hk]; rfl
  refine ⟨hx, ?_, ?_⟩
  · unfold nA
    rw [hk, if_neg (Nat.succ_ne_zero j), hx]
  · unfold eA
    rw [hk, if_neg (Nat.succ_ne_zero j)]
theorem okT : ((0#64 : BitVec 64) == 0#64) = true := rfl
theorem okF : ((2#64 : BitVec 64) == 0#64) = false := rfl
theorem cat_le {a b : ByteArray} {n k : Nat} (ha : a.size ≤ n) (hb : b.size ≤ k) : (catB a b).size ≤ n + k := by rw [cat_sz2]; omega
theorem s0_le (n : Nat) : s0.size ≤ n := Nat.zero_le _
theorem cond_le {c : Bool} {a b : ByteArray} {n : Nat} (ha : a.size ≤ n) (hb : b.size ≤ n) : (cond c a b).size ≤ n := by cases c <;> assumption
theorem en1_le (al cc sz : BitVec 64) (w sh : Bool) (d s : BitVec 64) (dp rl : BitVec 32) (im : BitVec 64) : (en1 al cc sz w sh d s dp rl im).size ≤ 60 := by
  unfold en1
  refine cat_le (n := 40) (k := 20) (cat_le (n := 20) (k := 20) (cat_le (n := 10) (k := 10) (cat_le (n := 5) (k := 5) ?_ ?_) ?_) ?_) ?_
  all_goals (repeat' (first | (with_reducible exact s0_le _) | (with_reducible exact rx_le _ _ _ _ (by decide)) | (with_reducible exact mr_le _ _ _ (by decide)) | (with_reducible exact b1_le _ (by decide)) | (with_reducible exact b4_le _ (by decide)) | (with_reducible exact b8_le _ (by decide)) | (with_reducible exact opK1 _ _ _ _ _ _ _ _ _ _ (by decide)) | (with_reducible refine cond_le ?_ ?_) | (with_reducible refine cat_le (n := 10) (k := 10) ?_ ?_) | (with_reducible refine cat_le (n := 5) (k := 5) ?_ ?_) | (show 1 ≤ 5; decide) | (show 1 ≤ 10; decide)))
theorem en2_le (al cc sz : BitVec 64) (w sh : Bool) (d s : BitVec 64) (dp rl : BitVec 32) (im : BitVec 64) : (en2 al cc sz w sh d s dp rl im).size ≤ 60 := by
  unfold en2
  refine cat_le (n := 40) (k := 20) (cat_le (n := 20) (k := 20) (cat_le (n := 10) (k := 10) (cat_le (n := 5) (k := 5) ?_ ?_) ?_) ?_) ?_
  all_goals (repeat' (first | (with_reducible exact s0_le _) | (with_reducible exact rx_le _ _ _ _ (by decide)) | (with_reducible exact mr_le _ _ _ (by decide)) | (with_reducible exact b1_le _ (by decide)) | (with_reducible exact b4_le _ (by decide)) | (with_reducible exact b8_le _ (by decide)) | (with_reducible exact opK2 _ _ _ _ _ _ _ _ _ _ (by decide)) | (with_reducible refine cond_le ?_ ?_) | (with_reducible refine cat_le (n := 10) (k := 10) ?_ ?_) | (with_reducible refine cat_le (n := 5) (k := 5) ?_ ?_) | (show 1 ≤ 5; decide) | (show 1 ≤ 10; decide)))
theorem en3_le (al cc sz : BitVec 64) (w sh : Bool) (d s : BitVec 64) (dp rl : BitVec 32) (im : BitVec 64) : (en3 al cc sz w sh d s dp rl im).size ≤ 60 := by
  unfold en3
  refine cat_le (n := 40) (k := 20) (cat_le (n := 20) (k := 20) (cat_le (n := 10) (k := 10) (cat_le (n := 5) (k := 5) ?_ ?_) ?_) ?_) ?_
  all_goals (repeat' (first | (with_reducible exact s0_le _) | (with_reducible exact rx_le _ _ _ _ (by decide)) | (with_reducible exact mr_le _ _ _ (by decide)) | (with_reducible exact b1_le _ (by decide)) | (with_reducible exact b4_le _ (by decide)) | (with_reducible exact b8_le _ (by decide)) | (with_reducible exact opK3 _ _ _ _ _ _ _ _ _ _ (by decide)) | (with_reducible refine cond_le ?_ ?_) | (with_reducible refine cat_le (n := 10) (k := 10) ?_ ?_) | (with_reducible refine cat_le (n := 5) (k := 5) ?_ ?_) | (show 1 ≤ 5; decide) | (show 1 ≤ 10; decide)))
theorem en4_le (al cc sz : BitVec 64) (w sh : Bool) (d s : BitVec 64) (dp rl : BitVec 32) (im : BitVec 64) : (en4 al cc sz w sh d s dp rl im).size ≤ 60 := by
  unfold en4
  refine cat_le (n := 40) (k := 20) (cat_le (n := 20) (k := 20) (cat_le (n := 10) (k := 10) (cat_le (n := 5) (k := 5) ?_ ?_) ?_) ?_) ?_
  all_goals (repeat' (first | (with_reducible exact s0_le _) | (with_reducible exact rx_le _ _ _ _ (by decide)) | (with_reducible exact mr_le _ _ _ (by decide)) | (with_reducible exact b1_le _ (by decide)) | (with_reducible exact b4_le _ (by decide)) | (with_reducible exact b8_le _ (by decide)) | (with_reducible exact opK4 _ _ _ _ _ _ _ _ _ _ (by decide)) | (with_reducible refine cond_le ?_ ?_) | (with_reducible refine cat_le (n := 10) (k := 10) ?_ ?_) | (with_reducible refine cat_le (n := 5) (k := 5) ?_ ?_) | (show 1 ≤ 5; decide) | (show 1 ≤ 10; decide)))
theorem en5_le (al cc sz : BitVec 64) (w sh : Bool) (d s : BitVec 64) (dp rl : BitVec 32) (im : BitVec 64) : (en5 al cc sz w sh d s dp rl im).size ≤ 60 := by
  unfold en5
  refine cat_le (n := 40) (k := 20) (cat_le (n := 20) (k := 20) (cat_le (n := 10) (k := 10) (cat_le (n := 5) (k := 5) ?_ ?_) ?_) ?_) ?_
  all_goals (repeat' (first | (with_reducible exact s0_le _) | (with_reducible exact rx_le _ _ _ _ (by decide)) | (with_reducible exact mr_le _ _ _ (by decide)) | (with_reducible exact b1_le _ (by decide)) | (with_reducible exact b4_le _ (by decide)) | (with_reducible exact b8_le _ (by decide)) | (with_reducible exact opK5 _ _ _ _ _ _ _ _ _ _ (by decide)) | (with_reducible refine cond_le ?_ ?_) | (with_reducible refine cat_le (n := 10) (k := 10) ?_ ?_) | (with_reducible refine cat_le (n := 5) (k := 5) ?_ ?_) | (show 1 ≤ 5; decide) | (show 1 ≤ 10; decide)))
theorem en6_le (al cc sz : BitVec 64) (w sh : Bool) (d s : BitVec 64) (dp rl : BitVec 32) (im : BitVec 64) : (en6 al cc sz w sh d s dp rl im).size ≤ 60 := by
  unfold en6
  refine cat_le (n := 40) (k := 20) (cat_le (n := 20) (k := 20) (cat_le (n := 10) (k := 10) (cat_le (n := 5) (k := 5) ?_ ?_) ?_) ?_) ?_
  all_goals (repeat' (first | (with_reducible exact s0_le _) | (with_reducible exact rx_le _ _ _ _ (by decide)) | (with_reducible exact mr_le _ _ _ (by decide)) | (with_reducible exact b1_le _ (by decide)) | (with_reducible exact b4_le _ (by decide)) | (with_reducible exact b8_le _ (by decide)) | (with_reducible exact opK6 _ _ _ _ _ _ _ _ _ _ (by decide)) | (with_reducible refine cond_le ?_ ?_) | (with_reducible refine cat_le (n := 10) (k := 10) ?_ ?_) | (with_reducible refine cat_le (n := 5) (k := 5) ?_ ?_) | (show 1 ≤ 5; decide) | (show 1 ≤ 10; decide)))
theorem en7_le (al cc sz : BitVec 64) (w sh : Bool) (d s : BitVec 64) (dp rl : BitVec 32) (im : BitVec 64) : (en7 al cc sz w sh d s dp rl im).size ≤ 60 := by
  unfold en7
  refine cat_le (n := 40) (k := 20) (cat_le (n := 20) (k := 20) (cat_le (n := 10) (k := 10) (cat_le (n := 5) (k := 5) ?_ ?_) ?_) ?_) ?_
  all_goals (repeat' (first | (with_reducible exact s0_le _) | (with_reducible exact rx_le _ _ _ _ (by decide)) | (with_reducible exact mr_le _ _ _ (by decide)) | (with_reducible exact b1_le _ (by decide)) | (with_reducible exact b4_le _ (by decide)) | (with_reducible exact b8_le _ (by decide)) | (with_reducible exact opK7 _ _ _ _ _ _ _ _ _ _ (by decide)) | (with_reducible refine cond_le ?_ ?_) | (with_reducible refine cat_le (n := 10) (k := 10) ?_ ?_) | (with_reducible refine cat_le (n := 5) (k := 5) ?_ ?_) | (show 1 ≤ 5; decide) | (show 1 ≤ 10; decide)))
theorem en8_le (al cc sz : BitVec 64) (w sh : Bool) (d s : BitVec 64) (dp rl : BitVec 32) (im : BitVec 64) : (en8 al cc sz w sh d s dp rl im).size ≤ 60 := by
  unfold en8
  refine cat_le (n := 40) (k := 20) (cat_le (n := 20) (k := 20) (cat_le (n := 10) (k := 10) (cat_le (n := 5) (k := 5) ?_ ?_) ?_) ?_) ?_
  all_goals (repeat' (first | (with_reducible exact s0_le _) | (with_reducible exact rx_le _ _ _ _ (by decide)) | (with_reducible exact mr_le _ _ _ (by decide)) | (with_reducible exact b1_le _ (by decide)) | (with_reducible exact b4_le _ (by decide)) | (with_reducible exact b8_le _ (by decide)) | (with_reducible exact opK8 _ _ _ _ _ _ _ _ _ _ (by decide)) | (with_reducible refine cond_le ?_ ?_) | (with_reducible refine cat_le (n := 10) (k := 10) ?_ ?_) | (with_reducible refine cat_le (n := 5) (k := 5) ?_ ?_) | (show 1 ≤ 5; decide) | (show 1 ≤ 10; decide)))
theorem en9_le (al cc sz : BitVec 64) (w sh : Bool) (d s : BitVec 64) (dp rl : BitVec 32) (im : BitVec 64) : (en9 al cc sz w sh d s dp rl im).size ≤ 60 := by
  unfold en9
  refine cat_le (n := 40) (k := 20) (cat_le (n := 20) (k := 20) (cat_le (n := 10) (k := 10) (cat_le (n := 5) (k := 5) ?_ ?_) ?_) ?_) ?_
  all_goals (repeat' (first | (with_reducible exact s0_le _) | (with_reducible exact rx_le _ _ _ _ (by decide)) | (with_reducible exact mr_le _ _ _ (by decide)) | (with_reducible exact b1_le _ (by decide)) | (with_reducible exact b4_le _ (by decide)) | (with_reducible exact b8_le _ (by decide)) | (with_reducible exact opK9 _ _ _ _ _ _ _ _ _ _ (by decide)) | (with_reducible refine cond_le ?_ ?_) | (with_reducible refine cat_le (n := 10) (k := 10) ?_ ?_) | (with_reducible refine cat_le (n := 5) (k := 5) ?_ ?_) | (show 1 ≤ 5; decide) | (show 1 ≤ 10; decide)))
theorem en10_le (al cc sz : BitVec 64) (w sh : Bool) (d s : BitVec 64) (dp rl : BitVec 32) (im : BitVec 64) : (en10 al cc sz w sh d s dp rl im).size ≤ 60 := by
  unfold en10
  refine cat_le (n := 40) (k := 20) (cat_le (n := 20) (k := 20) (cat_le (n := 10) (k := 10) (cat_le (n := 5) (k := 5) ?_ ?_) ?_) ?_) ?_
  all_goals (repeat' (first | (with_reducible exact s0_le _) | (with_reducible exact rx_le _ _ _ _ (by decide)) | (with_reducible exact mr_le _ _ _ (by decide)) | (with_reducible exact b1_le _ (by decide)) | (with_reducible exact b4_le _ (by decide)) | (with_reducible exact b8_le _ (by decide)) | (with_reducible exact opK10 _ _ _ _ _ _ _ _ _ _ (by decide)) | (with_reducible refine cond_le ?_ ?_) | (with_reducible refine cat_le (n := 10) (k := 10) ?_ ?_) | (with_reducible refine cat_le (n := 5) (k := 5) ?_ ?_) | (show 1 ≤ 5; decide) | (show 1 ≤ 10; decide)))
theorem en11_le (al cc sz : BitVec 64) (w sh : Bool) (d s : BitVec 64) (dp rl : BitVec 32) (im : BitVec 64) : (en11 al cc sz w sh d s dp rl im).size ≤ 60 := by
  unfold en11
  refine cat_le (n := 40) (k := 20) (cat_le (n := 20) (k := 20) (cat_le (n := 10) (k := 10) (cat_le (n := 5) (k := 5) ?_ ?_) ?_) ?_) ?_
  all_goals (repeat' (first | (with_reducible exact s0_le _) | (with_reducible exact rx_le _ _ _ _ (by decide)) | (with_reducible exact mr_le _ _ _ (by decide)) | (with_reducible exact b1_le _ (by decide)) | (with_reducible exact b4_le _ (by decide)) | (with_reducible exact b8_le _ (by decide)) | (with_reducible exact opK11 _ _ _ _ _ _ _ _ _ _ (by decide)) | (with_reducible refine cond_le ?_ ?_) | (with_reducible refine cat_le (n := 10) (k := 10) ?_ ?_) | (with_reducible refine cat_le (n := 5) (k := 5) ?_ ?_) | (show 1 ≤ 5; decide) | (show 1 ≤ 10; decide)))
theorem en12_le (al cc sz : BitVec 64) (w sh : Bool) (d s : BitVec 64) (dp rl : BitVec 32) (im : BitVec 64) : (en12 al cc sz w sh d s dp rl im).size ≤ 60 := by
  unfold en12
  refine cat_le (n := 40) (k := 20) (cat_le (n := 20) (k := 20) (cat_le (n := 10) (k := 10) (cat_le (n := 5) (k := 5) ?_ ?_) ?_) ?_) ?_
  all_goals (repeat' (first | (with_reducible exact s0_le _) | (with_reducible exact rx_le _ _ _ _ (by decide)) | (with_reducible exact mr_le _ _ _ (by decide)) | (with_reducible exact b1_le _ (by decide)) | (with_reducible exact b4_le _ (by decide)) | (with_reducible exact b8_le _ (by decide)) | (with_reducible exact opK12 _ _ _ _ _ _ _ _ _ _ (by decide)) | (with_reducible refine cond_le ?_ ?_) | (with_reducible refine cat_le (n := 10) (k := 10) ?_ ?_) | (with_reducible refine cat_le (n := 5) (k := 5) ?_ ?_) | (show 1 ≤ 5; decide) | (show 1 ≤ 10; decide)))
theorem en13_le (al cc sz : BitVec 64) (w sh : Bool) (d s : BitVec 64) (dp rl : BitVec 32) (im : BitVec 64) : (en13 al cc sz w sh d s dp rl im).size ≤ 60 := by
  unfold en13
  refine cat_le (n := 40) (k := 20) (cat_le (n := 20) (k := 20) (cat_le (n := 10) (k := 10) (cat_le (n := 5) (k := 5) ?_ ?_) ?_) ?_) ?_
  all_goals (repeat' (first | (with_reducible exact s0_le _) | (with_reducible exact rx_le _ _ _ _ (by decide)) | (with_reducible exact mr_le _ _ _ (by decide)) | (with_reducible exact b1_le _ (by decide)) | (with_reducible exact b4_le _ (by decide)) | (with_reducible exact b8_le _ (by decide)) | (with_reducible exact opK13 _ _ _ _ _ _ _ _ _ _ (by decide)) | (with_reducible refine cond_le ?_ ?_) | (with_reducible refine cat_le (n := 10) (k := 10) ?_ ?_) | (with_reducible refine cat_le (n := 5) (k := 5) ?_ ?_) | (show 1 ≤ 5; decide) | (show 1 ≤ 10; decide)))
theorem en14_le (al cc sz : BitVec 64) (w sh : Bool) (d s : BitVec 64) (dp rl : BitVec 32) (im : BitVec 64) : (en14 al cc sz w sh d s dp rl im).size ≤ 60 := by
  unfold en14
  refine cat_le (n := 40) (k := 20) (cat_le (n := 20) (k := 20) (cat_le (n := 10) (k := 10) (cat_le (n := 5) (k := 5) ?_ ?_) ?_) ?_) ?_
  all_goals (repeat' (first | (with_reducible exact s0_le _) | (with_reducible exact rx_le _ _ _ _ (by decide)) | (with_reducible exact mr_le _ _ _ (by decide)) | (with_reducible exact b1_le _ (by decide)) | (with_reducible exact b4_le _ (by decide)) | (with_reducible exact b8_le _ (by decide)) | (with_reducible exact opK14 _ _ _ _ _ _ _ _ _ _ (by decide)) | (with_reducible refine cond_le ?_ ?_) | (with_reducible refine cat_le (n := 10) (k := 10) ?_ ?_) | (with_reducible refine cat_le (n := 5) (k := 5) ?_ ?_) | (show 1 ≤ 5; decide) | (show 1 ≤ 10; decide)))
theorem en15_le (al cc sz : BitVec 64) (w sh : Bool) (d s : BitVec 64) (dp rl : BitVec 32) (im : BitVec 64) : (en15 al cc sz w sh d s dp rl im).size ≤ 60 := by
  unfold en15
  refine cat_le (n := 40) (k := 20) (cat_le (n := 20) (k := 20) (cat_le (n := 10) (k := 10) (cat_le (n := 5) (k := 5) ?_ ?_) ?_) ?_) ?_
  all_goals (repeat' (first | (with_reducible exact s0_le _) | (with_reducible exact rx_le _ _ _ _ (by decide)) | (with_reducible exact mr_le _ _ _ (by decide)) | (with_reducible exact b1_le _ (by decide)) | (with_reducible exact b4_le _ (by decide)) | (with_reducible exact b8_le _ (by decide)) | (with_reducible exact opK15 _ _ _ _ _ _ _ _ _ _ (by decide)) | (with_reducible refine cond_le ?_ ?_) | (with_reducible refine cat_le (n := 10) (k := 10) ?_ ?_) | (with_reducible refine cat_le (n := 5) (k := 5) ?_ ?_) | (show 1 ≤ 5; decide) | (show 1 ≤ 10; decide)))
theorem en16_le (al cc sz : BitVec 64) (w sh : Bool) (d s : BitVec 64) (dp rl : BitVec 32) (im : BitVec 64) : (en16 al cc sz w sh d s dp rl im).size ≤ 60 := by
  unfold en16
  refine cat_le (n := 40) (k := 20) (cat_le (n := 20) (k := 20) (cat_le (n := 10) (k := 10) (cat_le (n := 5) (k := 5) ?_ ?_) ?_) ?_) ?_
  all_goals (repeat' (first | (with_reducible exact s0_le _) | (with_reducible exact rx_le _ _ _ _ (by decide)) | (with_reducible exact mr_le _ _ _ (by decide)) | (with_reducible exact b1_le _ (by decide)) | (with_reducible exact b4_le _ (by decide)) | (with_reducible exact b8_le _ (by decide)) | (with_reducible exact opK16 _ _ _ _ _ _ _ _ _ _ (by decide)) | (with_reducible refine cond_le ?_ ?_) | (with_reducible refine cat_le (n := 10) (k := 10) ?_ ?_) | (with_reducible refine cat_le (n := 5) (k := 5) ?_ ?_) | (show 1 ≤ 5; decide) | (show 1 ≤ 10; decide)))
theorem en17_le (al cc sz : BitVec 64) (w sh : Bool) (d s : BitVec 64) (dp rl : BitVec 32) (im : BitVec 64) : (en17 al cc sz w sh d s dp rl im).size ≤ 60 := by
  unfold en17
  refine cat_le (n := 40) (k := 20) (cat_le (n := 20) (k := 20) (cat_le (n := 10) (k := 10) (cat_le (n := 5) (k := 5) ?_ ?_) ?_) ?_) ?_
  all_goals (repeat' (first | (with_reducible exact s0_le _) | (with_reducible exact rx_le _ _ _ _ (by decide)) | (with_reducible exact mr_le _ _ _ (by decide)) | (with_reducible exact b1_le _ (by decide)) | (with_reducible exact b4_le _ (by decide)) | (with_reducible exact b8_le _ (by decide)) | (with_reducible exact opK17 _ _ _ _ _ _ _ _ _ _ (by decide)) | (with_reducible refine cond_le ?_ ?_) | (with_reducible refine cat_le (n := 10) (k := 10) ?_ ?_) | (with_reducible refine cat_le (n := 5) (k := 5) ?_ ?_) | (show 1 ≤ 5; decide) | (show 1 ≤ 10; decide)))
theorem en18_le (al cc sz : BitVec 64) (w sh : Bool) (d s : BitVec 64) (dp rl : BitVec 32) (im : BitVec 64) : (en18 al cc sz w sh d s dp rl im).size ≤ 60 := by
  unfold en18
  refine cat_le (n := 40) (k := 20) (cat_le (n := 20) (k := 20) (cat_le (n := 10) (k := 10) (cat_le (n := 5) (k := 5) ?_ ?_) ?_) ?_) ?_
  all_goals (repeat' (first | (with_reducible exact s0_le _) | (with_reducible exact rx_le _ _ _ _ (by decide)) | (with_reducible exact mr_le _ _ _ (by decide)) | (with_reducible exact b1_le _ (by decide)) | (with_reducible exact b4_le _ (by decide)) | (with_reducible exact b8_le _ (by decide)) | (with_reducible exact opK18 _ _ _ _ _ _ _ _ _ _ (by decide)) | (with_reducible refine cond_le ?_ ?_) | (with_reducible refine cat_le (n := 10) (k := 10) ?_ ?_) | (with_reducible refine cat_le (n := 5) (k := 5) ?_ ?_) | (show 1 ≤ 5; decide) | (show 1 ≤ 10; decide)))
theorem en19_le (al cc sz : BitVec 64) (w sh : Bool) (d s : BitVec 64) (dp rl : BitVec 32) (im : BitVec 64) : (en19 al cc sz w sh d s dp rl im).size ≤ 60 := by
  unfold en19
  refine cat_le (n := 40) (k := 20) (cat_le (n := 20) (k := 20) (cat_le (n := 10) (k := 10) (cat_le (n := 5) (k := 5) ?_ ?_) ?_) ?_) ?_
  all_goals (repeat' (first | (with_reducible exact s0_le _) | (with_reducible exact rx_le _ _ _ _ (by decide)) | (with_reducible exact mr_le _ _ _ (by decide)) | (with_reducible exact b1_le _ (by decide)) | (with_reducible exact b4_le _ (by decide)) | (with_reducible exact b8_le _ (by decide)) | (with_reducible exact opK19 _ _ _ _ _ _ _ _ _ _ (by decide)) | (with_reducible refine cond_le ?_ ?_) | (with_reducible refine cat_le (n := 10) (k := 10) ?_ ?_) | (with_reducible refine cat_le (n := 5) (k := 5) ?_ ?_) | (show 1 ≤ 5; decide) | (show 1 ≤ 10; decide)))
theorem en20_le (al cc sz : BitVec 64) (w sh : Bool) (d s : BitVec 64) (dp rl : BitVec 32) (im : BitVec 64) : (en20 al cc sz w sh d s dp rl im).size ≤ 60 := by
  unfold en20
  refine cat_le (n := 40) (k := 20) (cat_le (n := 20) (k := 20) (cat_le (n := 10) (k := 10) (cat_le (n := 5) (k := 5) ?_ ?_) ?_) ?_) ?_
  all_goals (repeat' (first | (with_reducible exact s0_le _) | (with_reducible exact rx_le _ _ _ _ (by decide)) | (with_reducible exact mr_le _ _ _ (by decide)) | (with_reducible exact b1_le _ (by decide)) | (with_reducible exact b4_le _ (by decide)) | (with_reducible exact b8_le _ (by decide)) | (with_reducible exact opK20 _ _ _ _ _ _ _ _ _ _ (by decide)) | (with_reducible refine cond_le ?_ ?_) | (with_reducible refine cat_le (n := 10) (k := 10) ?_ ?_) | (with_reducible refine cat_le (n := 5) (k := 5) ?_ ?_) | (show 1 ≤ 5; decide) | (show 1 ≤ 10; decide)))
theorem en21_le (al cc sz : BitVec 64) (w sh : Bool) (d s : BitVec 64) (dp rl : BitVec 32) (im : BitVec 64) : (en21 al cc sz w sh d s dp rl im).size ≤ 60 := by
  unfold en21
  refine cat_le (n := 40) (k := 20) (cat_le (n := 20) (k := 20) (cat_le (n := 10) (k := 10) (cat_le (n := 5) (k := 5) ?_ ?_) ?_) ?_) ?_
  all_goals (repeat' (first | (with_reducible exact s0_le _) | (with_reducible exact rx_le _ _ _ _ (by decide)) | (with_reducible exact mr_le _ _ _ (by decide)) | (with_reducible exact b1_le _ (by decide)) | (with_reducible exact b4_le _ (by decide)) | (with_reducible exact b8_le _ (by decide)) | (with_reducible exact opK21 _ _ _ _ _ _ _ _ _ _ (by decide)) | (with_reducible refine cond_le ?_ ?_) | (with_reducible refine cat_le (n := 10) (k := 10) ?_ ?_) | (with_reducible refine cat_le (n := 5) (k := 5) ?_ ?_) | (show 1 ≤ 5; decide) | (show 1 ≤ 10; decide)))
theorem ite_le {c : Prop} [Decidable c] {a b : ByteArray} {n : Nat} (ha : a.size ≤ n) (hb : b.size ≤ n) : (if c then a else b).size ≤ n := by split <;> assumption
theorem enc_le (k : BitVec 64) (al cc sz : BitVec 64) (w sh : Bool) (d s : BitVec 64) (dp rl : BitVec 32) (im : BitVec 64) : (encB k al cc sz w sh d s dp rl im).size ≤ 60 := ite_le (en1_le al cc sz w sh d s dp rl im) (ite_le (en2_le al cc sz w sh d s dp rl im) (ite_le (en3_le al cc sz w sh d s dp rl im) (ite_le (en4_le al cc sz w sh d s dp rl im) (ite_le (en5_le al cc sz w sh d s dp rl im) (ite_le (en6_le al cc sz w sh d s dp rl im) (ite_le (en7_le al cc sz w sh d s dp rl im) (ite_le (en8_le al cc sz w sh d s dp rl im) (ite_le (en9_le al cc sz w sh d s dp rl im) (ite_le (en10_le al cc sz w sh d s dp rl im) (ite_le (en11_le al cc sz w sh d s dp rl im) (ite_le (en12_le al cc sz w sh d s dp rl im) (ite_le (en13_le al cc sz w sh d s dp rl im) (ite_le (en14_le al cc sz w sh d s dp rl im) (ite_le (en15_le al cc sz w sh d s dp rl im) (ite_le (en16_le al cc sz w sh d s dp rl im) (ite_le (en17_le al cc sz w sh d s dp rl im) (ite_le (en18_le al cc sz w sh d s dp rl im) (ite_le (en19_le al cc sz w sh d s dp rl im) (ite_le (en20_le al cc sz w sh d s dp rl im) (ite_le (en21_le al cc sz w sh d s dp rl im) (s0_le _)))))))))))))))))))))
theorem lt60 (c : Prop) [Decidable c] (k : BitVec 64) (al cc sz : BitVec 64) (w sh : Bool) (d s : BitVec 64) (dp rl : BitVec 32) (im : BitVec 64) : (if c then encB k al cc sz w sh d s dp rl im else s0).size < 9223372036854775808 := Nat.lt_of_le_of_lt (ite_le (enc_le k al cc sz w sh d s dp rl im) (s0_le 60)) (by decide)
theorem hit3 (t : ByteArray) {j : Nat} (q : j < 21) : (vld (G (BitVec.ofNat 64 (j + 1)).toNat t).k (G (BitVec.ofNat 64 (j + 1)).toNat t).al (G (BitVec.ofNat 64 (j + 1)).toNat t).cc (G (BitVec.ofNat 64 (j + 1)).toNat t).sz (G (BitVec.ofNat 64 (j + 1)).toNat t).w (G (BitVec.ofNat 64 (j + 1)).toNat t).sh (G (BitVec.ofNat 64 (j + 1)).toNat t).d (G (BitVec.ofNat 64 (j + 1)).toNat t).s (G (BitVec.ofNat 64 (j + 1)).toNat t).dp (G (BitVec.ofNat 64 (j + 1)).toNat t).rl (G (BitVec.ofNat 64 (j + 1)).toNat t).im = false ∧ hit (j + 1) t = false) ∨ (vld (G (BitVec.ofNat 64 (j + 1)).toNat t).k (G (BitVec.ofNat 64 (j + 1)).toNat t).al (G (BitVec.ofNat 64 (j + 1)).toNat t).cc (G (BitVec.ofNat 64 (j + 1)).toNat t).sz (G (BitVec.ofNat 64 (j + 1)).toNat t).w (G (BitVec.ofNat 64 (j + 1)).toNat t).sh (G (BitVec.ofNat 64 (j + 1)).toNat t).d (G (BitVec.ofNat 64 (j + 1)).toNat t).s (G (BitVec.ofNat 64 (j + 1)).toNat t).dp (G (BitVec.ofNat 64 (j + 1)).toNat t).rl (G (BitVec.ofNat 64 (j + 1)).toNat t).im = true ∧ pre t (encB (G (BitVec.ofNat 64 (j + 1)).toNat t).k (G (BitVec.ofNat 64 (j + 1)).toNat t).al (G (BitVec.ofNat 64 (j + 1)).toNat t).cc (G (BitVec.ofNat 64 (j + 1)).toNat t).sz (G (BitVec.ofNat 64 (j + 1)).toNat t).w (G (BitVec.ofNat 64 (j + 1)).toNat t).sh (G (BitVec.ofNat 64 (j + 1)).toNat t).d (G (BitVec.ofNat 64 (j + 1)).toNat t).s (G (BitVec.ofNat 64 (j + 1)).toNat t).dp (G (BitVec.ofNat 64 (j + 1)).toNat t).rl (G (BitVec.ofNat 64 (j + 1)).toNat t).im) = false ∧ hit (j + 1) t = false) ∨ (vld (G (BitVec.ofNat 64 (j + 1)).toNat t).k (G (BitVec.ofNat 64 (j + 1)).toNat t).al (G (BitVec.ofNat 64 (j + 1)).toNat t).cc (G (BitVec.ofNat 64 (j + 1)).toNat t).sz (G (BitVec.ofNat 64 (j + 1)).toNat t).w (G (BitVec.ofNat 64 (j + 1)).toNat t).sh (G (BitVec.ofNat 64 (j + 1)).toNat t).d (G (BitVec.ofNat 64 (j + 1)).toNat t).s (G (BitVec.ofNat 64 (j + 1)).toNat t).dp (G (BitVec.ofNat 64 (j + 1)).toNat t).rl (G (BitVec.ofNat 64 (j + 1)).toNat t).im = true ∧ pre t (encB (G (BitVec.ofNat 64 (j + 1)).toNat t).k (G (BitVec.ofNat 64 (j + 1)).toNat t).al (G (BitVec.ofNat 64 (j + 1)).toNat t).cc (G (BitVec.ofNat 64 (j + 1)).toNat t).sz (G (BitVec.ofNat 64 (j + 1)).toNat t).w (G (BitVec.ofNat 64 (j + 1)).toNat t).sh (G (BitVec.ofNat 64 (j + 1)).toNat t).d (G (BitVec.ofNat 64 (j + 1)).toNat t).s (G (BitVec.ofNat 64 (j + 1)).toNat t).dp (G (BitVec.ofNat 64 (j + 1)).toNat t).rl (G (BitVec.ofNat 64 (j + 1)).toNat t).im) = true ∧ hit (j + 1) t = true) := by
  have e : hit (j + 1) t = (vld (G (BitVec.ofNat 64 (j + 1)).toNat t).k (G (BitVec.ofNat 64 (j + 1)).toNat t).al (G (BitVec.ofNat 64 (j + 1)).toNat t).cc (G (BitVec.ofNat 64 (j + 1)).toNat t).sz (G (BitVec.ofNat 64 (j + 1)).toNat t).w (G (BitVec.ofNat 64 (j + 1)).toNat t).sh (G (BitVec.ofNat 64 (j + 1)).toNat t).d (G (BitVec.ofNat 64 (j + 1)).toNat t).s (G (BitVec.ofNat 64 (j + 1)).toNat t).dp (G (BitVec.ofNat 64 (j + 1)).toNat t).rl (G (BitVec.ofNat 64 (j + 1)).toNat t).im && pre t (encB (G (BitVec.ofNat 64 (j + 1)).toNat t).k (G (BitVec.ofNat 64 (j + 1)).toNat t).al (G (BitVec.ofNat 64 (j + 1)).toNat t).cc (G (BitVec.ofNat 64 (j + 1)).toNat t).sz (G (BitVec.ofNat 64 (j + 1)).toNat t).w (G (BitVec.ofNat 64 (j + 1)).toNat t).sh (G (BitVec.ofNat 64 (j + 1)).toNat t).d (G (BitVec.ofNat 64 (j + 1)).toNat t).s (G (BitVec.ofNat 64 (j + 1)).toNat t).dp (G (BitVec.ofNat 64 (j + 1)).toNat t).rl (G (BitVec.ofNat 64 (j + 1)).toNat t).im)) := by rw [k_nat q]; rfl
  rw [e]
  cases vld (G (BitVec.ofNat 64 (j + 1)).toNat t).k (G (BitVec.ofNat 64 (j + 1)).toNat t).al (G (BitVec.ofNat 64 (j + 1)).toNat t).cc (G (BitVec.ofNat 64 (j + 1)).toNat t).sz (G (BitVec.ofNat 64 (j + 1)).toNat t).w (G (BitVec.ofNat 64 (j + 1)).toNat t).sh (G (BitVec.ofNat 64 (j + 1)).toNat t).d (G (BitVec.ofNat 64 (j + 1)).toNat t).s (G (BitVec.ofNat 64 (j + 1)).toNat t).dp (G (BitVec.ofNat 64 (j + 1)).toNat t).rl (G (BitVec.ofNat 64 (j + 1)).toNat t).im <;> cases pre t (encB (G (BitVec.ofNat 64 (j + 1)).toNat t).k (G (BitVec.ofNat 64 (j + 1)).toNat t).al (G (BitVec.ofNat 64 (j + 1)).toNat t).cc (G (BitVec.ofNat 64 (j + 1)).toNat t).sz (G (BitVec.ofNat 64 (j + 1)).toNat t).w (G (BitVec.ofNat 64 (j + 1)).toNat t).sh (G (BitVec.ofNat 64 (j + 1)).toNat t).d (G (BitVec.ofNat 64 (j + 1)).toNat t).s (G (BitVec.ofNat 64 (j + 1)).toNat t).dp (G (BitVec.ofNat 64 (j + 1)).toNat t).rl (G (BitVec.ofNat 64 (j + 1)).toNat t).im) <;> simp
set_option maxRecDepth 100000 in
set_option maxHeartbeats 4000000 in
theorem Decode_bad (D2 : VData) (m : Nat → Nat) (s : ByteArray) (a : BitVec 64) (hs : s.size < 9223372036854775808) (hb : badA s a = true) : F Tryd.prog (tab (DN m D2) (tb_D m)) Tryd.f23 [.one (.str s), .one (.b64 true a)] (fun r => r = .tup [(true, LX (xA s a)), (false, [.b64 true (nA s a)]), (false, [.b64 true (eA s a)])]) := by
  have hk : kA s a = 0 := by unfold kA; rw [hb]; rfl
  have hx : xA s a = X0 := by unfold xA; rw [hk]; rfl
  have hn : nA s a = 0#64 := by unfold nA; rw [hk]; rfl
  have he : eA s a = 110#64 := by unfold eA; rw [hk]; rfl
  rw [hx, hn, he]
  unfold badA at hb
  cases b1 : a.slt 0#64
  all_goals
    rw [b1] at hb
    simp only [Bool.false_or, Bool.true_or] at hb
    repeat' (first
      | (with_reducible apply Given.mk; intro h; (try simp only [b1, hb, Bool.true_eq_false, Bool.false_eq_true] at h); (try exact absurd h (by decide)))
      | ((conv => whnf); with_reducible apply Both.mk))
    all_goals first
      | ((with_reducible apply Ob.mk); with_reducible exact hs)
      | (with_reducible apply Ob.mk; kernel_rfl)
      | (with_reducible apply Ob.mk; decide)
      | ((conv => whnf); exact ⟨rfl⟩)
      | ((conv => whnf); skip)
set_option maxRecDepth 100000 in
set_option maxHeartbeats 8000000 in
theorem Decode_go (D2 : VData) (m : Nat → Nat) (s : ByteArray) (a : BitVec 64) (hs : s.size < 9223372036854775808) (hb : badA s a = false) : F Tryd.prog (tab (DN m D2) (tb_D m)) Tryd.f23 [.one (.str s), .one (.b64 true a)] (fun r => r = .tup [(true, LX (xA s a)), (false, [.b64 true (nA s a)]), (false, [.b64 true (eA s a)])]) := by
  have hx0 := xA_0 hb
  have hx1 := fun j => xA_1 (j := j) hb
  have hat := at_ok hs hb
  have ht : (exB s a.toNat s.size).size < 9223372036854775808 := exB_lt hs
  have b1 : a.slt 0#64 = false := (Bool.or_eq_false_iff.1 hb).1
  have b2 : (BitVec.ofNat 64 s.size).sle a = false := (Bool.or_eq_false_iff.1 hb).2
  clear hb
  repeat' (first
    | (with_reducible apply Given.mk; intro h; (try simp only [b1, b2, Bool.true_eq_false, Bool.false_eq_true, eq_self] at h); (try ((fail_if_success (have _q := hw)); exact absurd h (by decide))); (try ((have _q := hw); simp only [hw, k_lt q, if_true, if_false, Bool.true_eq_false, Bool.false_eq_true, okT, okF, eq_self] at h)); (try ((have _q := hp); simp only [hp, Bool.true_eq_false, Bool.false_eq_true, eq_self] at h)))
    | ((conv => whnf); first
      | with_reducible apply Both.mk
      | (refine LoopP.mk (Nat) (fun j => DL (exB s a.toNat s.size) j) (fun j => mkS (Tryd.f23).ntmps [(0, .one (.str s)), (1, .one (.b64 true a)), (4, .one (.ptr 4 0)), (5, .one (.b64 true 0#64)), (6, .one (.b64 true 0#64)), (7, .one (.b64 true (BitVec.ofNat 64 (j + 1))))] [(4, .cells 23 [.b64 true 0#64, .b64 true 0#64, .b64 true 0#64, .b64 true 0#64, .bool false, .bool false, .b64 true 0#64, .b64 true 0#64, .b32 true 0#32, .b32 true 0#32, .b64 true 0#64])]) (fun j => 21 - j) ⟨0, DL.start _, ⟨?_, ?_, ?_, ?_, ?_⟩⟩ ?_; (focus ((repeat' ((conv => whnf); first | exact trivial | refine Both.mk (by first | with_reducible rfl | exact iN_succ _ | rfl) ?_)); done)); (focus ((repeat' ((conv => whnf); first | exact trivial | refine Both.mk (by first | with_reducible rfl | exact iN_succ _ | rfl) ?_)); done)); (focus exact rfl); (focus exact rfl); (focus exact rfl); (rintro j hj; rcases Nat.lt_or_ge j 21 with q | q; (have kn := k_nat q; rcases hit3 (exB s a.toNat s.size) q with ⟨hw, hn⟩ | ⟨hw, hp, hn⟩ | ⟨hw, hp, hn⟩); rotate_left 3; (have e21 : j = 21 := Nat.le_antisymm hj.le q; subst e21); all_goals (as_aux_lemma => (repeat' (first | (with_reducible apply Given.mk; intro h; (try simp only [b1, b2, Bool.true_eq_false, Bool.false_eq_true, eq_self] at h); (try ((fail_if_success (have _q := hw)); exact absurd h (by decide))); (try ((have _q := hw); simp only [hw, k_lt q, if_true, if_false, Bool.true_eq_false, Bool.false_eq_true, okT, okF, eq_self] at h)); (try ((have _q := hp); simp only [hp, Bool.true_eq_false, Bool.false_eq_true, eq_self] at h))) | ((conv => whnf); with_reducible apply Both.mk)); all_goals (first | ((with_reducible apply Ob.mk); with_reducible exact hs) | (with_reducible apply Ob.mk; kernel_rfl) | (with_reducible apply Ob.mk; decide) | ((with_reducible apply Ob.mk); exact hat) | ((with_reducible apply Ob.mk); exact ⟨ht, by rw [kn]; exact Nat.succ_pos _, by rw [kn]; exact q⟩) | ((with_reducible apply Ob.mk); with_reducible exact ⟨ht, lt60 _ _ _ _ _ _ _ _ _ _ _ _⟩) | ((with_reducible apply Ob.mk); with_reducible exact lt60 _ _ _ _ _ _ _ _ _ _ _ _) | (((conv => whnf); refine ⟨j + 1, hj.next q hn, (by omega), ⟨?_, ?_, ?_, ?_, ?_⟩⟩; (focus ((repeat' ((conv => whnf); first | exact trivial | refine Both.mk (by first | with_reducible rfl | exact iN_succ _ | rfl) ?_)); done)); (focus ((repeat' ((conv => whnf); first | exact trivial | refine Both.mk (by first | with_reducible rfl | exact iN_succ _ | rfl) ?_)); done)); (focus exact rfl); (focus exact rfl); (focus exact rfl))) | ((conv => whnf); refine ⟨?_⟩; rw [(hx0 hj.stop).1, (hx0 hj.stop).2.1, (hx0 hj.stop).2.2]; rfl) | ((conv => whnf); refine ⟨?_⟩; rw [(hx1 j (hj.here q hn)).1, (hx1 j (hj.here q hn)).2.1, (hx1 j (hj.here q hn)).2.2]; simp only [hw, if_true]; simp only [kn]; rfl) | ((conv => whnf); skip))))))))
  all_goals first
    | ((with_reducible apply Ob.mk); with_reducible exact hs)
    | (with_reducible apply Ob.mk; kernel_rfl)
    | (with_reducible apply Ob.mk; decide)
    | ((with_reducible apply Ob.mk); exact hat)
    | ((with_reducible apply Ob.mk); exact ⟨ht, by rw [kn]; exact Nat.succ_pos _, by rw [kn]; exact q⟩)
    | ((with_reducible apply Ob.mk); with_reducible exact ⟨ht, lt60 _ _ _ _ _ _ _ _ _ _ _ _⟩)
    | ((with_reducible apply Ob.mk); with_reducible exact lt60 _ _ _ _ _ _ _ _ _ _ _ _)
    | (((conv => whnf); refine ⟨j + 1, hj.next q hn, (by omega), ⟨?_, ?_, ?_, ?_, ?_⟩⟩; (focus ((repeat' ((conv => whnf); first | exact trivial | refine Both.mk (by first | with_reducible rfl | exact iN_succ _ | rfl) ?_)); done)); (focus ((repeat' ((conv => whnf); first | exact trivial | refine Both.mk (by first | with_reducible rfl | exact iN_succ _ | rfl) ?_)); done)); (focus exact rfl); (focus exact rfl); (focus exact rfl)))
    | ((conv => whnf); refine ⟨?_⟩; rw [(hx0 hj.stop).1, (hx0 hj.stop).2.1, (hx0 hj.stop).2.2]; rfl)
    | ((conv => whnf); refine ⟨?_⟩; rw [(hx1 j (hj.here q hn)).1, (hx1 j (hj.here q hn)).2.1, (hx1 j (hj.here q hn)).2.2]; simp only [hw, if_true]; simp only [kn]; rfl)
    | ((conv => whnf); skip)
set_option maxRecDepth 100000 in
theorem e_Decode (G2 : World → Prop) (D2 : VData) (k2 : DataOK Tryd.prog G2 D2) (m : Nat → Nat) : EntryOK Tryd.prog (GN m G2) 23 sp_Decode := by
  refine .of_F (C_D G2 D2 k2 m) (by kernel_rfl) Tryd.func23 (by kernel_rfl) (by kernel_rfl) (fun args c v h hc => ?_)
  unfold sp_Decode at h
  split at h
  · rename_i s a; cases h
    refine ⟨rfl, rfl, ?_⟩
    cases hb : badA s a with
    | true => exact Decode_bad D2 m s a hc hb
    | false => exact Decode_go D2 m s a hc hb
  · cases h
end Go.Proofs.YtppankimieopiaaDoor
