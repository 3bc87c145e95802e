/-
  Chapter 04: what reads words: contracts by the kind of the answer alone. Conditions: as typed.
-/
import Derived.Test.YtdaioplfgbgggaaPv
import Derived.Test.YtdaioplfgbgggaaOa
namespace Go.Proofs.Ytdaioplfgbgggaa
open Go.Ep Go.RowKit
set_option linter.unusedVariables false
set_option linter.unusedSimpArgs false
abbrev tb_t : List (Nat × Sp) := tb_firewallref03_Half
theorem C_t : CSound Try.prog anyWorld (tab noData tb_t) := C_firewallref03_Half
theorem lt63 {k n : Nat} (hn : n < 9223372036854775808) (hk : k ≤ n) (h : (BitVec.ofNat 64 k).slt (BitVec.ofNat 64 n) = true) : k < n := lt_of_slt (by omega) (by omega) h
theorem ix63 {k n : Nat} (hn : n < 9223372036854775808) (hk : k ≤ n) (h : (BitVec.ofNat 64 k).slt (BitVec.ofNat 64 n) = true) : 0 ≤ (BitVec.ofNat 64 k).toInt ∧ (BitVec.ofNat 64 k).toNat < n := ix_ofNat (by omega) (lt63 hn hk h)
theorem gt63' {k n : Nat} (hn : n < 9223372036854775808) (hk : k < 9223372036854775808) (h : (BitVec.ofNat 64 k).slt (BitVec.ofNat 64 n) = true) : k < n := lt_of_slt hk hn h
theorem s3 {n : Nat} (hn : n < 9223372036854775808) (h : (3#64).slt (BitVec.ofNat 64 n) = true) : 3 < n := gt63' (k := 3) hn (by decide) h
theorem s1 {n : Nat} (hn : n < 9223372036854775808) (h : (1#64).slt (BitVec.ofNat 64 n) = true) : 1 < n := gt63' (k := 1) hn (by decide) h
theorem ex63 {s : ByteArray} (hs : s.size < 9223372036854775808) (a b : Nat) : (exB s a b).size < 9223372036854775808 := by rw [exB_size]; omega
abbrev eB : ByteArray := ⟨#[]⟩
def mD (v : BitVec 64) (t : ByteArray) : Nat := 2 * v.toNat + if t.size = 0 then 1 else 0
theorem mD_1 {v : BitVec 64} {t t' : ByteArray} (h : (0#64).ult v = true) : mD (v / 10#64) t' < mD v t := by
  have h1 : 0 < v.toNat := by simpa [BitVec.ult_eq_decide] using h
  have h2 : (v / 10#64).toNat = v.toNat / 10 := by rw [BitVec.toNat_udiv]; rfl
  unfold mD
  rw [h2]
  split <;> split <;> omega
theorem mD_2 {v : BitVec 64} {t t' : ByteArray} (h : (0#64).ult v = false) (ht : decide (t = { data := #[] }) = true) (ht' : 0 < t'.size) : mD (v / 10#64) t' < mD v t := by
  have h1 : v.toNat = 0 := by
    have : ¬ 0 < v.toNat := by simpa [BitVec.ult_eq_decide] using h
    omega
  have h2 : (v / 10#64).toNat = v.toNat / 10 := by rw [BitVec.toNat_udiv]; rfl
  have h3 : t.size = 0 := by rw [of_decide_eq_true ht]; rfl
  unfold mD
  rw [h2, h1, h3, if_neg (by omega)]
  decide
def DG (v : BitVec 64) (t : ByteArray) : Prop := t.size ≤ 20 ∧ v.toNat < 10 ^ (20 - t.size)
theorem DG_start (v : BitVec 64) : DG v eB := ⟨by decide, Nat.lt_of_lt_of_le v.isLt (by decide)⟩
theorem DG_1 {v : BitVec 64} {t t' : ByteArray} (H : DG v t) (h : (0#64).ult v = true) (ht : t'.size = t.size + 1) : DG (v / 10#64) t' := by
  have h1 : 0 < v.toNat := by simpa [BitVec.ult_eq_decide] using h
  have h2 : (v / 10#64).toNat = v.toNat / 10 := by rw [BitVec.toNat_udiv]; rfl
  obtain ⟨a, b⟩ := H
  have c : t.size ≠ 20 := by
    intro e
    rw [e] at b
    have : v.toNat < 1 := b
    omega
  refine ⟨by omega, ?_⟩
  rw [h2, ht, Nat.div_lt_iff_lt_mul (by decide)]
  have : 10 ^ (20 - t.size) = 10 ^ (20 - (t.size + 1)) * 10 := by
    rw [← Nat.pow_succ]; congr 1; omega
  omega
theorem DG_2 {v : BitVec 64} {t t' : ByteArray} (h : (0#64).ult v = false) (ht : decide (t = { data := #[] }) = true) (ht' : t'.size = t.size + 1) : DG (v / 10#64) t' := by
  have h1 : v.toNat = 0 := by
    have : ¬ 0 < v.toNat := by simpa [BitVec.ult_eq_decide] using h
    omega
  have h2 : (v / 10#64).toNat = v.toNat / 10 := by rw [BitVec.toNat_udiv]; rfl
  have h3 : t.size = 0 := by rw [of_decide_eq_true ht]; rfl
  refine ⟨by omega, ?_⟩
  rw [h2, h1]
  exact Nat.pow_pos (by decide)
theorem cat_sz (a : UInt8) (t : ByteArray) : (catB ⟨⟨[a]⟩⟩ t).size = t.size + 1 := by
  rw [show (catB ⟨⟨[a]⟩⟩ t).size = (catB ⟨⟨[a]⟩⟩ t).data.toList.length from rfl]
  simp [catB]
theorem fs_num : FsOK Try.prog [(81, Try.f81)] := FsOK.cons Try.func81 (by kernel_rfl) (by kernel_rfl) (FsOK.nil)
theorem C_num : CSound Try.prog anyWorld (tabI Try.prog noData tb_t [(81, Try.f81)] 3) := CSound.tabI C_t (by kernel_rfl) fs_num 3
def h_num : SpH
  | [.one (.b64 true n)] => some ⟨Cond.t, ByteArray, fun s => s.size ≤ 21, fun s => .one (.str s)⟩
  | _ => none
set_option maxRecDepth 100000 in
set_option maxHeartbeats 8000000 in
theorem num_walk (n : BitVec 64) :
    FI Try.prog (tabI Try.prog noData tb_t [(81, Try.f81)] 3) Try.f59 0 [.one (.b64 true n)] [] (fun r _ => ∃ s, s.size ≤ 21 ∧ r = .one (.str s)) := by
  repeat' (first
    | (with_reducible apply Given.mk; intro h; (try simp only [BitVec.reduceBNe, BitVec.reduceBEq, beq_self_eq_true, bne_self_eq_false, Bool.or_false, Bool.false_or, Bool.and_true, Bool.true_and, decide_true, reduceCtorEq, Bool.true_eq_false, Bool.false_eq_true, Bool.not_true, Bool.not_false] at h))
    | ((conv => whnf); first
      | with_reducible apply Both.mk
      | (with_reducible apply Each.mk; intro kk)
      | (refine LoopP.mk (BitVec 64 × ByteArray) (fun k => DG k.1 k.2) ((fun k => mkS (Try.f81).ntmps [(0, .one (.b64 false k.1)), (3, .one (.str k.2))] [])) (fun k => mD k.1 k.2) ⟨(-n, eB), DG_start _, ⟨?_, ?_, ?_, ?_, ?_⟩⟩ ?_; (focus ((repeat' ((conv => whnf); first | exact trivial | refine Both.mk (by first | with_reducible rfl | exact iN_succ _ | rfl) ?_)); done)); (focus ((repeat' ((conv => whnf); first | exact trivial | refine Both.mk (by first | with_reducible rfl | exact iN_succ _ | rfl) ?_)); done)); (focus exact rfl); (focus exact rfl); (focus exact rfl); (rintro ⟨v, t⟩ q1 <;> dsimp only at q1 <;> dsimp only))
      | (refine LoopP.mk (BitVec 64 × ByteArray) (fun k => DG k.1 k.2) ((fun k => mkS (Try.f81).ntmps [(0, .one (.b64 false k.1)), (3, .one (.str k.2))] [])) (fun k => mD k.1 k.2) ⟨(n, eB), DG_start _, ⟨?_, ?_, ?_, ?_, ?_⟩⟩ ?_; (focus ((repeat' ((conv => whnf); first | exact trivial | refine Both.mk (by first | with_reducible rfl | exact iN_succ _ | rfl) ?_)); done)); (focus ((repeat' ((conv => whnf); first | exact trivial | refine Both.mk (by first | with_reducible rfl | exact iN_succ _ | rfl) ?_)); done)); (focus exact rfl); (focus exact rfl); (focus exact rfl); (rintro ⟨v, t⟩ q1 <;> dsimp only at q1 <;> dsimp only))))
  all_goals first
    | ((with_reducible apply Ob.mk); with_reducible assumption)
    | (with_reducible apply Ob.mk; kernel_rfl)
    | ((conv => whnf); exact ⟨_, (by have := q1.1; omega), rfl⟩)
    | ((conv => whnf); exact ⟨_, (by rw [cat_sz]; have := q1.1; omega), rfl⟩)
    | ((with_reducible apply Ob.mk); exact (by decide : (10#64 : BitVec 64) ≠ 0#64))
    | ((with_reducible apply Ob.mk); show 1 + t.size < 9223372036854775808; have := q1.1; omega)
    | ((conv => whnf); refine ⟨(v / 10#64, catB ⟨⟨[⟨BitVec.setWidth 8 (48#64 + v % 10#64)⟩]⟩⟩ t), (by first | exact DG_1 q1 (by with_reducible assumption) (cat_sz _ _) | exact DG_2 (by with_reducible assumption) (by with_reducible assumption) (cat_sz _ _)), (by first | exact mD_1 (by with_reducible assumption) | exact mD_2 (by with_reducible assumption) (by with_reducible assumption) (by rw [cat_sz]; omega)), ⟨?_, ?_, ?_, ?_, ?_⟩⟩; (focus ((repeat' ((conv => whnf); first | exact trivial | refine Both.mk (by first | with_reducible rfl | exact iN_succ _ | rfl) ?_)); done)); (focus ((repeat' ((conv => whnf); first | exact trivial | refine Both.mk (by first | with_reducible rfl | exact iN_succ _ | rfl) ?_)); done)); (focus exact rfl); (focus exact rfl); (focus exact rfl))
    | (with_reducible apply Ob.mk; skip)
    | ((conv => whnf); skip)
def h_parse : SpH
  | [.one (.str s), .one (.b64 true a), .one (.b64 false b)] => some ⟨Cond.p (s.size < 9223372036854775808), BitVec 64 × Bool, fun _ => True, fun k => .tup [(false, [.b64 false k.1]), (false, [.bool k.2])]⟩
  | _ => none
set_option maxRecDepth 100000 in
set_option maxHeartbeats 8000000 in
theorem parse_walk (s : ByteArray) (a b : BitVec 64) (hs : s.size < 9223372036854775808) :
    FI Try.prog (tab noData tb_t) Try.f57 0 [.one (.str s), .one (.b64 true a), .one (.b64 false b)] [] (fun r _ => ∃ k : BitVec 64 × Bool, True ∧ r = .tup [(false, [.b64 false k.1]), (false, [.bool k.2])]) := by
  repeat' (first
    | (with_reducible apply Given.mk; intro h; (try simp only [BitVec.reduceBNe, BitVec.reduceBEq, beq_self_eq_true, bne_self_eq_false, Bool.or_false, Bool.false_or, Bool.and_true, Bool.true_and, decide_true, reduceCtorEq, Bool.true_eq_false, Bool.false_eq_true, Bool.not_true, Bool.not_false] at h))
    | ((conv => whnf); first
      | with_reducible apply Both.mk
      | (with_reducible apply Each.mk; intro kk)
      | ((fail_if_success (have _q := q1)); refine LoopP.mk ((ByteArray × Bool) × BitVec 64 × Nat) (fun k => k.1.1.size < 9223372036854775808 ∧ k.2.2 ≤ k.1.1.size) ((fun k => mkS (Try.f57).ntmps [(0, .one (.str k.1.1)), (1, .one (.b64 true a)), (2, .one (.b64 false b)), (8, .one (.bool k.1.2)), (9, .one (.b64 false k.2.1)), (10, iN k.2.2)] [])) (fun k => k.1.1.size - k.2.2) ⟨((exB s 3 s.size, true), 0#64, 0), ⟨ex63 hs _ _, Nat.zero_le _⟩, ⟨?_, ?_, ?_, ?_, ?_⟩⟩ ?_; (focus ((repeat' ((conv => whnf); first | exact trivial | refine Both.mk (by first | with_reducible rfl | exact iN_succ _ | rfl) ?_)); done)); (focus ((repeat' ((conv => whnf); first | exact trivial | refine Both.mk (by first | with_reducible rfl | exact iN_succ _ | rfl) ?_)); done)); (focus exact rfl); (focus exact rfl); (focus exact rfl); (rintro ⟨⟨t, mi⟩, n, i⟩ ⟨qt, q1⟩ <;> dsimp only at qt q1 <;> dsimp only))
      | ((fail_if_success (have _q := q1)); refine LoopP.mk ((ByteArray × Bool) × BitVec 64 × Nat) (fun k => k.1.1.size < 9223372036854775808 ∧ k.2.2 ≤ k.1.1.size) ((fun k => mkS (Try.f57).ntmps [(0, .one (.str k.1.1)), (1, .one (.b64 true a)), (2, .one (.b64 false b)), (8, .one (.bool k.1.2)), (9, .one (.b64 false k.2.1)), (10, iN k.2.2)] [])) (fun k => k.1.1.size - k.2.2) ⟨((exB s 3 s.size, false), 0#64, 0), ⟨ex63 hs _ _, Nat.zero_le _⟩, ⟨?_, ?_, ?_, ?_, ?_⟩⟩ ?_; (focus ((repeat' ((conv => whnf); first | exact trivial | refine Both.mk (by first | with_reducible rfl | exact iN_succ _ | rfl) ?_)); done)); (focus ((repeat' ((conv => whnf); first | exact trivial | refine Both.mk (by first | with_reducible rfl | exact iN_succ _ | rfl) ?_)); done)); (focus exact rfl); (focus exact rfl); (focus exact rfl); (rintro ⟨⟨t, mi⟩, n, i⟩ ⟨qt, q1⟩ <;> dsimp only at qt q1 <;> dsimp only))
      | ((fail_if_success (have _q := q1)); refine LoopP.mk ((ByteArray × Bool) × BitVec 64 × Nat) (fun k => k.1.1.size < 9223372036854775808 ∧ k.2.2 ≤ k.1.1.size) ((fun k => mkS (Try.f57).ntmps [(0, .one (.str k.1.1)), (1, .one (.b64 true a)), (2, .one (.b64 false b)), (8, .one (.bool k.1.2)), (9, .one (.b64 false k.2.1)), (10, iN k.2.2)] [])) (fun k => k.1.1.size - k.2.2) ⟨((exB s 3 s.size, (byteAt s 0 == 45#8)), 0#64, 0), ⟨ex63 hs _ _, Nat.zero_le _⟩, ⟨?_, ?_, ?_, ?_, ?_⟩⟩ ?_; (focus ((repeat' ((conv => whnf); first | exact trivial | refine Both.mk (by first | with_reducible rfl | exact iN_succ _ | rfl) ?_)); done)); (focus ((repeat' ((conv => whnf); first | exact trivial | refine Both.mk (by first | with_reducible rfl | exact iN_succ _ | rfl) ?_)); done)); (focus exact rfl); (focus exact rfl); (focus exact rfl); (rintro ⟨⟨t, mi⟩, n, i⟩ ⟨qt, q1⟩ <;> dsimp only at qt q1 <;> dsimp only))
      | ((fail_if_success (have _q := q1)); refine LoopP.mk ((ByteArray × Bool) × BitVec 64 × Nat) (fun k => k.1.1.size < 9223372036854775808 ∧ k.2.2 ≤ k.1.1.size) ((fun k => mkS (Try.f57).ntmps [(0, .one (.str k.1.1)), (1, .one (.b64 true a)), (2, .one (.b64 false b)), (8, .one (.bool k.1.2)), (9, .one (.b64 false k.2.1)), (10, iN k.2.2)] [])) (fun k => k.1.1.size - k.2.2) ⟨((exB s 1 s.size, true), 0#64, 0), ⟨ex63 hs _ _, Nat.zero_le _⟩, ⟨?_, ?_, ?_, ?_, ?_⟩⟩ ?_; (focus ((repeat' ((conv => whnf); first | exact trivial | refine Both.mk (by first | with_reducible rfl | exact iN_succ _ | rfl) ?_)); done)); (focus ((repeat' ((conv => whnf); first | exact trivial | refine Both.mk (by first | with_reducible rfl | exact iN_succ _ | rfl) ?_)); done)); (focus exact rfl); (focus exact rfl); (focus exact rfl); (rintro ⟨⟨t, mi⟩, n, i⟩ ⟨qt, q1⟩ <;> dsimp only at qt q1 <;> dsimp only))
      | ((fail_if_success (have _q := q1)); refine LoopP.mk ((ByteArray × Bool) × BitVec 64 × Nat) (fun k => k.1.1.size < 9223372036854775808 ∧ k.2.2 ≤ k.1.1.size) ((fun k => mkS (Try.f57).ntmps [(0, .one (.str k.1.1)), (1, .one (.b64 true a)), (2, .one (.b64 false b)), (8, .one (.bool k.1.2)), (9, .one (.b64 false k.2.1)), (10, iN k.2.2)] [])) (fun k => k.1.1.size - k.2.2) ⟨((exB s 1 s.size, false), 0#64, 0), ⟨ex63 hs _ _, Nat.zero_le _⟩, ⟨?_, ?_, ?_, ?_, ?_⟩⟩ ?_; (focus ((repeat' ((conv => whnf); first | exact trivial | refine Both.mk (by first | with_reducible rfl | exact iN_succ _ | rfl) ?_)); done)); (focus ((repeat' ((conv => whnf); first | exact trivial | refine Both.mk (by first | with_reducible rfl | exact iN_succ _ | rfl) ?_)); done)); (focus exact rfl); (focus exact rfl); (focus exact rfl); (rintro ⟨⟨t, mi⟩, n, i⟩ ⟨qt, q1⟩ <;> dsimp only at qt q1 <;> dsimp only))
      | ((fail_if_success (have _q := q1)); refine LoopP.mk ((ByteArray × Bool) × BitVec 64 × Nat) (fun k => k.1.1.size < 9223372036854775808 ∧ k.2.2 ≤ k.1.1.size) ((fun k => mkS (Try.f57).ntmps [(0, .one (.str k.1.1)), (1, .one (.b64 true a)), (2, .one (.b64 false b)), (8, .one (.bool k.1.2)), (9, .one (.b64 false k.2.1)), (10, iN k.2.2)] [])) (fun k => k.1.1.size - k.2.2) ⟨((exB s 1 s.size, (byteAt s 0 == 45#8)), 0#64, 0), ⟨ex63 hs _ _, Nat.zero_le _⟩, ⟨?_, ?_, ?_, ?_, ?_⟩⟩ ?_; (focus ((repeat' ((conv => whnf); first | exact trivial | refine Both.mk (by first | with_reducible rfl | exact iN_succ _ | rfl) ?_)); done)); (focus ((repeat' ((conv => whnf); first | exact trivial | refine Both.mk (by first | with_reducible rfl | exact iN_succ _ | rfl) ?_)); done)); (focus exact rfl); (focus exact rfl); (focus exact rfl); (rintro ⟨⟨t, mi⟩, n, i⟩ ⟨qt, q1⟩ <;> dsimp only at qt q1 <;> dsimp only))
      | ((fail_if_success (have _q := q1)); refine LoopP.mk ((ByteArray × Bool) × BitVec 64 × Nat) (fun k => k.1.1.size < 9223372036854775808 ∧ k.2.2 ≤ k.1.1.size) ((fun k => mkS (Try.f57).ntmps [(0, .one (.str k.1.1)), (1, .one (.b64 true a)), (2, .one (.b64 false b)), (8, .one (.bool k.1.2)), (9, .one (.b64 false k.2.1)), (10, iN k.2.2)] [])) (fun k => k.1.1.size - k.2.2) ⟨((s, true), 0#64, 0), ⟨hs, Nat.zero_le _⟩, ⟨?_, ?_, ?_, ?_, ?_⟩⟩ ?_; (focus ((repeat' ((conv => whnf); first | exact trivial | refine Both.mk (by first | with_reducible rfl | exact iN_succ _ | rfl) ?_)); done)); (focus ((repeat' ((conv => whnf); first | exact trivial | refine Both.mk (by first | with_reducible rfl | exact iN_succ _ | rfl) ?_)); done)); (focus exact rfl); (focus exact rfl); (focus exact rfl); (rintro ⟨⟨t, mi⟩, n, i⟩ ⟨qt, q1⟩ <;> dsimp only at qt q1 <;> dsimp only))
      | ((fail_if_success (have _q := q1)); refine LoopP.mk ((ByteArray × Bool) × BitVec 64 × Nat) (fun k => k.1.1.size < 9223372036854775808 ∧ k.2.2 ≤ k.1.1.size) ((fun k => mkS (Try.f57).ntmps [(0, .one (.str k.1.1)), (1, .one (.b64 true a)), (2, .one (.b64 false b)), (8, .one (.bool k.1.2)), (9, .one (.b64 false k.2.1)), (10, iN k.2.2)] [])) (fun k => k.1.1.size - k.2.2) ⟨((s, false), 0#64, 0), ⟨hs, Nat.zero_le _⟩, ⟨?_, ?_, ?_, ?_, ?_⟩⟩ ?_; (focus ((repeat' ((conv => whnf); first | exact trivial | refine Both.mk (by first | with_reducible rfl | exact iN_succ _ | rfl) ?_)); done)); (focus ((repeat' ((conv => whnf); first | exact trivial | refine Both.mk (by first | with_reducible rfl | exact iN_succ _ | rfl) ?_)); done)); (focus exact rfl); (focus exact rfl); (focus exact rfl); (rintro ⟨⟨t, mi⟩, n, i⟩ ⟨qt, q1⟩ <;> dsimp only at qt q1 <;> dsimp only))
      | ((fail_if_success (have _q := q1)); refine LoopP.mk ((ByteArray × Bool) × BitVec 64 × Nat) (fun k => k.1.1.size < 9223372036854775808 ∧ k.2.2 ≤ k.1.1.size) ((fun k => mkS (Try.f57).ntmps [(0, .one (.str k.1.1)), (1, .one (.b64 true a)), (2, .one (.b64 false b)), (8, .one (.bool k.1.2)), (9, .one (.b64 false k.2.1)), (10, iN k.2.2)] [])) (fun k => k.1.1.size - k.2.2) ⟨((s, (byteAt s 0 == 45#8)), 0#64, 0), ⟨hs, Nat.zero_le _⟩, ⟨?_, ?_, ?_, ?_, ?_⟩⟩ ?_; (focus ((repeat' ((conv => whnf); first | exact trivial | refine Both.mk (by first | with_reducible rfl | exact iN_succ _ | rfl) ?_)); done)); (focus ((repeat' ((conv => whnf); first | exact trivial | refine Both.mk (by first | with_reducible rfl | exact iN_succ _ | rfl) ?_)); done)); (focus exact rfl); (focus exact rfl); (focus exact rfl); (rintro ⟨⟨t, mi⟩, n, i⟩ ⟨qt, q1⟩ <;> dsimp only at qt q1 <;> dsimp only))))
  all_goals first
    | ((with_reducible apply Ob.mk); with_reducible assumption)
    | (with_reducible apply Ob.mk; kernel_rfl)
    | ((conv => whnf); exact ⟨(_, _), trivial, rfl⟩)
    | ((with_reducible apply Ob.mk); exact ex63 hs _ _)
    | ((have _q := q1); first
      | ((with_reducible apply Ob.mk); exact ix63 qt q1 (by with_reducible assumption))
      | ((with_reducible apply Ob.mk); exact (ix63 qt q1 (by with_reducible assumption)).2)
      | ((with_reducible apply Ob.mk); exact (lt63 qt q1 (by with_reducible assumption)))
      | ((conv => whnf); refine ⟨((t, mi), n * 10#64 + BitVec.setWidth 64 (byteAt t (BitVec.ofNat 64 i).toNat - 48#8), i + 1), ⟨qt, (lt63 qt q1 (by with_reducible assumption))⟩, (by have := (lt63 qt q1 (by with_reducible assumption)); show t.size - (i + 1) < t.size - i; omega), ⟨?_, ?_, ?_, ?_, ?_⟩⟩; (focus ((repeat' ((conv => whnf); first | exact trivial | refine Both.mk (by first | with_reducible rfl | exact iN_succ _ | rfl) ?_)); done)); (focus ((repeat' ((conv => whnf); first | exact trivial | refine Both.mk (by first | with_reducible rfl | exact iN_succ _ | rfl) ?_)); done)); (focus exact rfl); (focus exact rfl); (focus exact rfl)))
    | ((with_reducible apply Ob.mk); exact (by decide : (10#64 : BitVec 64) ≠ 0#64))
    | ((with_reducible apply Ob.mk); have h3 := s3 hs (by with_reducible assumption); first | exact ⟨Nat.zero_le _, Nat.le_of_lt h3⟩ | exact ⟨Nat.le_of_lt h3, Nat.le_refl _⟩)
    | ((with_reducible apply Ob.mk); have h1 := s1 hs (by with_reducible assumption); first | exact ⟨Nat.le_of_lt h1, Nat.le_refl _⟩ | exact Nat.lt_trans Nat.zero_lt_one h1)
    | (with_reducible apply Ob.mk; skip)
    | ((conv => whnf); skip)
set_option maxRecDepth 100000 in
theorem e_num : EntryH Try.prog anyWorld 59 h_num := by
  refine .of_FI C_num (by kernel_rfl) Try.func59 (by kernel_rfl) (by kernel_rfl) (fun args a h hc => ?_)
  unfold h_num at h
  split at h
  · cases h
    exact ⟨rfl, fun _ => rfl, num_walk _⟩
  · cases h
set_option maxRecDepth 100000 in
theorem e_parse : EntryH Try.prog anyWorld 57 h_parse := by
  refine .of_FI C_t (by kernel_rfl) Try.func57 (by kernel_rfl) (by kernel_rfl) (fun args a h hc => ?_)
  unfold h_parse at h
  split at h
  · cases h
    exact ⟨rfl, fun _ => rfl, parse_walk _ _ _ hc⟩
  · cases h
theorem C_reg1 : CSound Try.prog anyWorld (withH (tab noData tb_t) [(59, h_num)]) := C_t.withH (.cons e_num .nil)
def h_reg1 : SpH
  | [.one (.b8 false n)] => some ⟨Cond.t, ByteArray, fun s => s.size ≤ 22, fun s => .one (.str s)⟩
  | _ => none
theorem cat_sz2 (a b : ByteArray) : (catB a b).size = a.size + b.size := by
  rw [show (catB a b).size = (catB a b).data.toList.length from rfl, show a.size = a.data.toList.length from rfl, show b.size = b.data.toList.length from rfl]
  simp [catB]
set_option maxRecDepth 100000 in
set_option maxHeartbeats 8000000 in
theorem reg1_walk (n : BitVec 8) :
    FI Try.prog (withH (tab noData tb_t) [(59, h_num)]) Try.f79 0 [.one (.b8 false n)] [] (fun r _ => ∃ s, s.size ≤ 22 ∧ r = .one (.str s)) := by
  repeat' (first
    | (with_reducible apply Given.mk; intro h; (try simp only [BitVec.reduceBNe, BitVec.reduceBEq, beq_self_eq_true, bne_self_eq_false, Bool.or_false, Bool.false_or, Bool.and_true, Bool.true_and, decide_true, reduceCtorEq, Bool.true_eq_false, Bool.false_eq_true, Bool.not_true, Bool.not_false] at h))
    | ((conv => whnf); first
      | with_reducible apply Both.mk
      | (with_reducible apply Each.mk; intro kk)
      | (refine LoopP.times 1 ?_; fail)))
  all_goals first
    | ((with_reducible apply Ob.mk); with_reducible assumption)
    | (with_reducible apply Ob.mk; kernel_rfl)
    | ((with_reducible apply Ob.mk); have h21 : kk.size ≤ 21 := (by assumption); show 1 + kk.size < 9223372036854775808; omega)
    | ((conv => whnf); have h21 : kk.size ≤ 21 := (by assumption); exact ⟨_, (by rw [cat_sz2]; show 1 + kk.size ≤ 22; omega), rfl⟩)
    | (with_reducible apply Ob.mk; skip)
    | ((conv => whnf); skip)
set_option maxRecDepth 100000 in
theorem e_reg1 : EntryH Try.prog anyWorld 79 h_reg1 := by
  refine .of_FI C_reg1 (by kernel_rfl) Try.func79 (by kernel_rfl) (by kernel_rfl) (fun args a h hc => ?_)
  unfold h_reg1 at h
  split at h
  · cases h
    exact ⟨rfl, fun _ => rfl, reg1_walk _⟩
  · cases h
theorem C_reg : CSound Try.prog anyWorld (withH (tab noData tb_t) [(79, h_reg1)]) := C_t.withH (.cons e_reg1 .nil)
def h_reg : SpH
  | [.one (.str s)] => some ⟨Cond.p (s.size < 9223372036854775808), BitVec 8 × Bool, fun _ => True, fun k => .tup [(false, [.b8 false k.1]), (false, [.bool k.2])]⟩
  | _ => none
theorem le11 {k : Nat} (h : k ≤ 11) (h2 : (BitVec.ofNat 64 k).sle 10#64 = true) : k + 1 ≤ 11 := by
  have h3 : (BitVec.ofNat 64 k).sle (BitVec.ofNat 64 10) = true := h2
  rw [sle_nat (by omega) (by decide)] at h3
  have := of_decide_eq_true h3
  omega
set_option maxRecDepth 100000 in
set_option maxHeartbeats 8000000 in
theorem reg_walk (s : ByteArray) (hs : s.size < 9223372036854775808) :
    FI Try.prog (withH (tab noData tb_t) [(79, h_reg1)]) Try.f56 0 [.one (.str s)] [] (fun r _ => ∃ k : BitVec 8 × Bool, True ∧ r = .tup [(false, [.b8 false k.1]), (false, [.bool k.2])]) := by
  repeat' (first
    | (with_reducible apply Given.mk; intro h; (try simp only [BitVec.reduceBNe, BitVec.reduceBEq, beq_self_eq_true, bne_self_eq_false, Bool.or_false, Bool.false_or, Bool.and_true, Bool.true_and, decide_true, reduceCtorEq, Bool.true_eq_false, Bool.false_eq_true, Bool.not_true, Bool.not_false] at h))
    | ((conv => whnf); first
      | with_reducible apply Both.mk
      | (with_reducible apply Each.mk; intro kk)
      | ((fail_if_success (have _q := q1)); refine LoopP.mk (Nat) (fun k => k ≤ 11) ((fun k => mkS (Try.f56).ntmps [(0, .one (.str s)), (4, iN k)] [])) (fun k => 11 - k) ⟨0, Nat.zero_le _, ⟨?_, ?_, ?_, ?_, ?_⟩⟩ ?_; (focus ((repeat' ((conv => whnf); first | exact trivial | refine Both.mk (by first | with_reducible rfl | exact iN_succ _ | rfl) ?_)); done)); (focus ((repeat' ((conv => whnf); first | exact trivial | refine Both.mk (by first | with_reducible rfl | exact iN_succ _ | rfl) ?_)); done)); (focus exact rfl); (focus exact rfl); (focus exact rfl); (rintro k q1))))
  all_goals first
    | ((with_reducible apply Ob.mk); with_reducible assumption)
    | (with_reducible apply Ob.mk; kernel_rfl)
    | ((conv => whnf); exact ⟨(_, _), trivial, rfl⟩)
    | ((conv => whnf); refine ⟨k + 1, le11 q1 (by with_reducible assumption), (by have := le11 q1 (by with_reducible assumption); omega), ⟨?_, ?_, ?_, ?_, ?_⟩⟩; (focus ((repeat' ((conv => whnf); first | exact trivial | refine Both.mk (by first | with_reducible rfl | exact iN_succ _ | rfl) ?_)); done)); (focus ((repeat' ((conv => whnf); first | exact trivial | refine Both.mk (by first | with_reducible rfl | exact iN_succ _ | rfl) ?_)); done)); (focus exact rfl); (focus exact rfl); (focus exact rfl))
    | (with_reducible apply Ob.mk; skip)
    | ((conv => whnf); skip)
set_option maxRecDepth 100000 in
theorem e_reg : EntryH Try.prog anyWorld 56 h_reg := by
  refine .of_FI C_reg (by kernel_rfl) Try.func56 (by kernel_rfl) (by kernel_rfl) (fun args a h hc => ?_)
  unfold h_reg at h
  split at h
  · cases h
    exact ⟨rfl, fun _ => rfl, reg_walk _ hc⟩
  · cases h
theorem C_fldT : CSound Try.prog anyWorld (withH (tab noData tb_t) [(56, h_reg), (57, h_parse)]) := C_t.withH (.cons e_reg (.cons e_parse .nil))
def h_fldT : SpH
  | [.agg [.b8 false a1, .b8 false a2, .b8 false a3, .b16 true a4, .b32 true a5], .one (.b8 false b), .one (.str s)] => some ⟨Cond.p (s.size < 9223372036854775808), IN × Bool, fun _ => True, fun k => .tup [(true, [.b8 false k.1.o, .b8 false k.1.d, .b8 false k.1.s, .b16 true k.1.f, .b32 true k.1.i]), (false, [.bool k.2])]⟩
  | _ => none
set_option maxRecDepth 100000 in
set_option maxHeartbeats 8000000 in
theorem fldT_walk (a1 a2 a3 : BitVec 8) (a4 : BitVec 16) (a5 : BitVec 32) (b : BitVec 8) (s : ByteArray) (hs : s.size < 9223372036854775808) :
    FI Try.prog (withH (tab noData tb_t) [(56, h_reg), (57, h_parse)]) Try.f80 0 [.agg [.b8 false a1, .b8 false a2, .b8 false a3, .b16 true a4, .b32 true a5], .one (.b8 false b), .one (.str s)] [] (fun r _ => ∃ k : IN × Bool, True ∧ r = .tup [(true, [.b8 false k.1.o, .b8 false k.1.d, .b8 false k.1.s, .b16 true k.1.f, .b32 true k.1.i]), (false, [.bool k.2])]) := by
  repeat' (first
    | (with_reducible apply Given.mk; intro h; (try simp only [BitVec.reduceBNe, BitVec.reduceBEq, beq_self_eq_true, bne_self_eq_false, Bool.or_false, Bool.false_or, Bool.and_true, Bool.true_and, decide_true, reduceCtorEq, Bool.true_eq_false, Bool.false_eq_true, Bool.not_true, Bool.not_false] at h))
    | ((conv => whnf); first
      | with_reducible apply Both.mk
      | (with_reducible apply Each.mk; intro kk)
      | (refine LoopP.times 1 ?_; fail)))
  all_goals first
    | ((with_reducible apply Ob.mk); with_reducible assumption)
    | (with_reducible apply Ob.mk; kernel_rfl)
    | ((conv => whnf); exact ⟨(⟨_, _, _, _, _⟩, _), trivial, rfl⟩)
    | (with_reducible apply Ob.mk; skip)
    | ((conv => whnf); skip)
set_option maxRecDepth 100000 in
theorem e_fldT : EntryH Try.prog anyWorld 80 h_fldT := by
  refine .of_FI C_fldT (by kernel_rfl) Try.func80 (by kernel_rfl) (by kernel_rfl) (fun args a h hc => ?_)
  unfold h_fldT at h
  split at h
  · cases h
    exact ⟨rfl, fun _ => rfl, fldT_walk _ _ _ _ _ _ _ hc⟩
  · cases h
theorem e21 : (2#64 + 1#64 : BitVec 64) = 3#64 := by decide
theorem ch_le {s : ByteArray} {p : BitVec 64} {n : Nat} (hs : s.size < 4611686018427387904) (hp : 0 ≤ p.toInt ∧ p.toNat < s.size) (hn : n ≤ 4) (h : (BitVec.ofNat 64 s.size).slt (p + BitVec.ofNat 64 n) = false) : p.toNat + n ≤ s.size := by
  have e : p + BitVec.ofNat 64 n = BitVec.ofNat 64 (p.toNat + n) := by
    rw [BitVec.ofNat_add, BitVec.ofNat_toNat, BitVec.setWidth_eq]
  rw [e] at h
  rcases Nat.lt_or_ge (p.toNat + n) 9223372036854775808 with h1 | h1
  · rw [slt_nat (by omega) h1] at h
    have := of_decide_eq_false h
    omega
  · exfalso
    omega
theorem ch_ix {s : ByteArray} {p : BitVec 64} {n j : Nat} (hs : s.size < 4611686018427387904) (hp : 0 ≤ p.toInt ∧ p.toNat < s.size) (hn : n ≤ 4) (h : (BitVec.ofNat 64 s.size).slt (p + BitVec.ofNat 64 n) = false) (hj : j < n) : 0 ≤ (p + BitVec.ofNat 64 j).toInt ∧ (p + BitVec.ofNat 64 j).toNat < s.size := by
  have h1 := ch_le hs hp hn h
  have e : p + BitVec.ofNat 64 j = BitVec.ofNat 64 (p.toNat + j) := by
    rw [BitVec.ofNat_add, BitVec.ofNat_toNat, BitVec.setWidth_eq]
  rw [e]
  exact ix_ofNat (by omega) (by omega)
def h_char : SpH
  | [.one (.str s), .one (.b64 true p)] => some ⟨Cond.p (s.size < 4611686018427387904 ∧ 0 ≤ p.toInt ∧ p.toNat < s.size), Nat, fun k => k = 0 ∨ (1 ≤ k ∧ k ≤ 4 ∧ p.toNat + k ≤ s.size), fun k => .one (.b64 true (BitVec.ofNat 64 k))⟩
  | _ => none
set_option maxRecDepth 100000 in
set_option maxHeartbeats 8000000 in
theorem char_walk (s : ByteArray) (p : BitVec 64) (hs : s.size < 4611686018427387904) (hp : 0 ≤ p.toInt ∧ p.toNat < s.size) :
    FI Try.prog (tab noData tb_t) Try.f54 0 [.one (.str s), .one (.b64 true p)] [] (fun r _ => ∃ k : Nat, (k = 0 ∨ (1 ≤ k ∧ k ≤ 4 ∧ p.toNat + k ≤ s.size)) ∧ r = .one (.b64 true (BitVec.ofNat 64 k))) := by
  repeat' (first
    | (with_reducible apply Given.mk; intro h; (try (first | exact absurd (show (2#64).slt 2#64 = true from h) (by decide) | exact absurd (show (2#64).slt 3#64 = false from h) (by decide) | exact absurd (show (2#64).slt 4#64 = false from h) (by decide) | exact absurd (show (2#64 + 1#64).slt 2#64 = true from h) (by decide) | exact absurd (show (2#64 + 1#64).slt 3#64 = true from h) (by decide) | exact absurd (show (2#64 + 1#64).slt 4#64 = false from h) (by decide) | exact absurd (show (2#64 + 1#64 + 1#64).slt 2#64 = true from h) (by decide) | exact absurd (show (2#64 + 1#64 + 1#64).slt 3#64 = true from h) (by decide) | exact absurd (show (2#64 + 1#64 + 1#64).slt 4#64 = true from h) (by decide) |  skip)); (try simp only [BitVec.reduceBNe, BitVec.reduceBEq, beq_self_eq_true, bne_self_eq_false, Bool.or_false, Bool.false_or, Bool.and_true, Bool.true_and, decide_true, reduceCtorEq, Bool.true_eq_false, Bool.false_eq_true, Bool.not_true, Bool.not_false] at h))
    | ((conv => whnf); first
      | with_reducible apply Both.mk
      | (with_reducible apply Each.mk; intro kk)
      | (refine LoopP.times 4 ?_)))
  all_goals first
    | ((with_reducible apply Ob.mk); with_reducible assumption)
    | (with_reducible apply Ob.mk; kernel_rfl)
    | ((with_reducible apply Ob.mk); exact Nat.lt_trans hs (by decide))
    | ((with_reducible apply Ob.mk); exact hp)
    | ((with_reducible apply Ob.mk); exact hp.2)
    | ((with_reducible apply Ob.mk); with_reducible have _h : (BitVec.ofNat 64 s.size).slt (p + 2#64) = false := (by assumption); (try rw [e21]); first | exact ch_ix (n := 2) (j := 1) hs hp (by decide) _h (by decide) | exact (ch_ix (n := 2) (j := 1) hs hp (by decide) _h (by decide)).2)
    | ((with_reducible apply Ob.mk); with_reducible have _h : (BitVec.ofNat 64 s.size).slt (p + 3#64) = false := (by assumption); (try rw [e21]); first | exact ch_ix (n := 3) (j := 1) hs hp (by decide) _h (by decide) | exact (ch_ix (n := 3) (j := 1) hs hp (by decide) _h (by decide)).2)
    | ((with_reducible apply Ob.mk); with_reducible have _h : (BitVec.ofNat 64 s.size).slt (p + 4#64) = false := (by assumption); (try rw [e21]); first | exact ch_ix (n := 4) (j := 1) hs hp (by decide) _h (by decide) | exact (ch_ix (n := 4) (j := 1) hs hp (by decide) _h (by decide)).2)
    | ((with_reducible apply Ob.mk); with_reducible have _h : (BitVec.ofNat 64 s.size).slt (p + 3#64) = false := (by assumption); (try rw [e21]); first | exact ch_ix (n := 3) (j := 2) hs hp (by decide) _h (by decide) | exact (ch_ix (n := 3) (j := 2) hs hp (by decide) _h (by decide)).2)
    | ((with_reducible apply Ob.mk); with_reducible have _h : (BitVec.ofNat 64 s.size).slt (p + 4#64) = false := (by assumption); (try rw [e21]); first | exact ch_ix (n := 4) (j := 2) hs hp (by decide) _h (by decide) | exact (ch_ix (n := 4) (j := 2) hs hp (by decide) _h (by decide)).2)
    | ((with_reducible apply Ob.mk); with_reducible have _h : (BitVec.ofNat 64 s.size).slt (p + 4#64) = false := (by assumption); (try rw [e21]); first | exact ch_ix (n := 4) (j := 3) hs hp (by decide) _h (by decide) | exact (ch_ix (n := 4) (j := 3) hs hp (by decide) _h (by decide)).2)
    | ((conv => whnf); exact ⟨0, .inl rfl, rfl⟩)
    | ((conv => whnf); exact ⟨1, .inr ⟨by decide, by decide, by have := hp.2; omega⟩, rfl⟩)
    | ((with_reducible have _h : (BitVec.ofNat 64 s.size).slt (p + 2#64) = false := (by assumption)); (conv => whnf); exact ⟨2, .inr ⟨by decide, by decide, ch_le (n := 2) hs hp (by decide) _h⟩, rfl⟩)
    | ((with_reducible have _h : (BitVec.ofNat 64 s.size).slt (p + 3#64) = false := (by assumption)); (conv => whnf); exact ⟨3, .inr ⟨by decide, by decide, ch_le (n := 3) hs hp (by decide) _h⟩, rfl⟩)
    | ((with_reducible have _h : (BitVec.ofNat 64 s.size).slt (p + 4#64) = false := (by assumption)); (conv => whnf); exact ⟨4, .inr ⟨by decide, by decide, ch_le (n := 4) hs hp (by decide) _h⟩, rfl⟩)
    | (with_reducible apply Ob.mk; skip)
    | ((conv => whnf); skip)
set_option maxRecDepth 100000 in
theorem e_char : EntryH Try.prog anyWorld 54 h_char := by
  refine .of_FI C_t (by kernel_rfl) Try.func54 (by kernel_rfl) (by kernel_rfl) (fun args a h hc => ?_)
  unfold h_char at h
  split at h
  · cases h
    exact ⟨rfl, fun _ => rfl, char_walk _ _ hc.1 hc.2⟩
  · cases h
end Go.Proofs.Ytdaioplfgbgggaa
