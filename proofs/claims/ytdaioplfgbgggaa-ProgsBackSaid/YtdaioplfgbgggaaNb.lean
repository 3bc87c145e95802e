/-
  Chapter 04: ProgsBytes, as the evaluator leaves it. Conditions: as typed.
-/
import Derived.Test.YtdaioplfgbgggaaNe
namespace Go.Proofs.Ytdaioplfgbgggaa
open Go.Ep Go.RowKit
set_option linter.unusedVariables false
set_option linter.unusedSimpArgs false
theorem lt8 {k n m : Nat} (hk : k ≤ 64) (hm : m = 8 * n) (hm' : m < 9223372036854775808) (h : (BitVec.ofNat 64 (8 * k)).slt (BitVec.ofNat 64 m) = true) : k < n := by
  have := lt_of_slt (by omega) hm' h; omega
theorem ge8 {k n m : Nat} (hk : k ≤ 64) (hm : m = 8 * n) (hm' : m < 9223372036854775808) (h : (BitVec.ofNat 64 (8 * k)).slt (BitVec.ofNat 64 m) = false) : n ≤ k := by
  have := ge_of_slt (by omega) hm' h; omega
theorem ltD {k n m : Nat} (hk : k ≤ 64) (hm : m = 8 * n) (hm' : m < 9223372036854775808) (h : (BitVec.ofNat 64 k).slt ((BitVec.ofNat 64 m).sdiv 8#64) = true) : k < n := by
  rw [sdiv8 hm'] at h; have := lt_of_slt (by omega) (by omega) h; omega
theorem geD {k n m : Nat} (hk : k ≤ 64) (hm : m = 8 * n) (hm' : m < 9223372036854775808) (h : (BitVec.ofNat 64 k).slt ((BitVec.ofNat 64 m).sdiv 8#64) = false) : n ≤ k := by
  rw [sdiv8 hm'] at h; have := ge_of_slt (by omega) (by omega) h; omega
theorem natD {n m : Nat} (hm : m = 8 * n) (hm' : m < 9223372036854775808) : ((BitVec.ofNat 64 m).sdiv 8#64).toNat = n := by
  rw [sdiv8 hm', nat_ofNat (by omega)]; omega
theorem lenD {n m : Nat} (hm : m = 8 * n) (hm' : m < 9223372036854775808) : (BitVec.ofNat 64 n != BitVec.ofNat 64 ((BitVec.ofNat 64 m).sdiv 8#64).toNat) = false := by
  rw [natD hm hm']; simp
theorem bnd8 {k n m : Nat} (hk : k ≤ 64) (hm : m = 8 * n) (h : k < n) : (0 ≤ (BitVec.ofNat 64 (8 * k)).toInt ∧ 0 ≤ (BitVec.ofNat 64 (8 * k) + 8#64).toInt) ∧ (BitVec.ofNat 64 (8 * k)).toNat ≤ (BitVec.ofNat 64 (8 * k) + 8#64).toNat ∧ (BitVec.ofNat 64 (8 * k) + 8#64).toNat ≤ m := by
  refine ⟨⟨?_, ?_⟩, ?_, ?_⟩
  · rw [toInt_ofNat (by omega)]; omega
  · rw [at8n, toInt_ofNat (by omega)]; omega
  · rw [at8 hk, at8p hk]; omega
  · rw [at8p hk]; omega
theorem bnd8' {k n m : Nat} (hk : k ≤ 64) (hm : m = 8 * n) (h : k < n) : (0 ≤ (8#64 * BitVec.ofNat 64 k).toInt ∧ 0 ≤ (8#64 * BitVec.ofNat 64 k + 8#64).toInt) ∧ (8#64 * BitVec.ofNat 64 k).toNat ≤ (8#64 * BitVec.ofNat 64 k + 8#64).toNat ∧ (8#64 * BitVec.ofNat 64 k + 8#64).toNat ≤ m := by
  rw [mul8]; exact bnd8 hk hm h
theorem exB_lt {s : ByteArray} (hs : s.size < 9223372036854775808) (a b : Nat) : (exB s a b).size < 9223372036854775808 := by rw [exB_size]; omega
theorem same_dead {g : IT} {n i : Nat} (hn : n ≤ 64) (h64 : i ≤ 64) (hi : (BitVec.ofNat 64 i).slt (BitVec.ofNat 64 n) = true) (h : (!((upT g n (BitVec.ofNat 64 i).toNat).o == (fillT g n (BitVec.ofNat 64 i).toNat).o && ((upT g n (BitVec.ofNat 64 i).toNat).d == (fillT g n (BitVec.ofNat 64 i).toNat).d && ((upT g n (BitVec.ofNat 64 i).toNat).s == (fillT g n (BitVec.ofNat 64 i).toNat).s && ((upT g n (BitVec.ofNat 64 i).toNat).f == (fillT g n (BitVec.ofNat 64 i).toNat).f && (upT g n (BitVec.ofNat 64 i).toNat).i == (fillT g n (BitVec.ofNat 64 i).toNat).i))))) = true) : False := by
  have hlt := lt_of_slt (by omega) (by omega) hi
  rw [nat_ofNat (by omega), upT_lt g hlt, fillT_lt g hlt] at h
  simp at h
theorem ltn {n i : Nat} (hn : n ≤ 64) (h64 : i ≤ 64) (hi : (BitVec.ofNat 64 i).slt (BitVec.ofNat 64 n) = true) : i < n := lt_of_slt (by omega) (by omega) hi
theorem ixn {n i : Nat} (hn : n ≤ 64) (h64 : i ≤ 64) (hi : (BitVec.ofNat 64 i).slt (BitVec.ofNat 64 n) = true) : 0 ≤ (BitVec.ofNat 64 i).toInt ∧ (BitVec.ofNat 64 i).toNat < n := ix_ofNat (by omega) (ltn hn h64 hi)
theorem size_zero {s : ByteArray} (h : s.size = 0) : s = ⟨#[]⟩ := by
  obtain ⟨⟨l⟩⟩ := s
  have : l.length = 0 := h
  rw [List.length_eq_zero_iff.1 this]
set_option maxRecDepth 100000 in
set_option maxHeartbeats 8000000 in
theorem Bytes_A1 (s : ByteArray) (hs : s.size < 9223372036854775808) (T : TypeId) (len cap : Nat) (hl : len < 9223372036854775808) (x : IT) (f1 : (1000#64).slt (BitVec.ofNat 64 s.size) = true) :
    FI Try.prog (tabMI Try.prog noData tb_b ms_b FSb 3) Try.f8 1 [.one (.str s), .one (.slc 0 0 len cap)] [(0, .ro T [.seg 5 len (inF x)])] (fun r _ => r = .one (.bool true)) := by
  repeat' (first
    | (with_reducible apply Given.mk; intro h; (try simp only [f1, reduceCtorEq, decide_true, beq_self_eq_true] at h); (try ((fail_if_success (have _q := three)); exact absurd h (by decide))))
    | ((conv => whnf); first
      | with_reducible apply Both.mk
      | refine LoopP.times 1 ?_))
  all_goals first
    | (with_reducible apply Ob.mk; kernel_rfl)
    | (with_reducible apply Ob.mk; decide)
    | (with_reducible apply Ob.mk; with_reducible assumption)
    | ((with_reducible apply Ob.mk); exact ⟨Nat.le_refl _, by omega, .inr rfl⟩)
    | ((with_reducible apply Ob.mk); exact ⟨by decide, .inl rfl⟩)
    | ((conv => whnf); exact rfl)
    | ((conv => whnf); exact congrArg (fun b => AV.one (.bool b)) (decide_eq_true rfl))
    | (with_reducible apply Ob.mk; skip)
    | ((conv => whnf); skip)
set_option maxRecDepth 100000 in
set_option maxHeartbeats 8000000 in
theorem Bytes_Z1 (s : ByteArray) (hs : s.size < 9223372036854775808) (T : TypeId) (len cap : Nat) (hl : len < 9223372036854775808) (x : IT) (f1 : (1000#64).slt (BitVec.ofNat 64 s.size) = false) (f2 : (100#64).slt (BitVec.ofNat 64 len) = true) :
    FI Try.prog (tabMI Try.prog noData tb_b ms_b FSb 3) Try.f8 1 [.one (.str s), .one (.slc 0 0 len cap)] [(0, .ro T [.seg 5 len (inF x)])] (fun r _ => r = .one (.bool true)) := by
  repeat' (first
    | (with_reducible apply Given.mk; intro h; (try simp only [f1, f2, reduceCtorEq, decide_true, beq_self_eq_true] at h); (try ((fail_if_success (have _q := three)); exact absurd h (by decide))))
    | ((conv => whnf); first
      | with_reducible apply Both.mk
      | refine LoopP.times 1 ?_))
  all_goals first
    | (with_reducible apply Ob.mk; kernel_rfl)
    | (with_reducible apply Ob.mk; decide)
    | (with_reducible apply Ob.mk; with_reducible assumption)
    | ((with_reducible apply Ob.mk); exact ⟨Nat.le_refl _, by omega, .inr rfl⟩)
    | ((with_reducible apply Ob.mk); exact ⟨by decide, .inl rfl⟩)
    | ((conv => whnf); exact rfl)
    | ((conv => whnf); exact congrArg (fun b => AV.one (.bool b)) (decide_eq_true rfl))
    | (with_reducible apply Ob.mk; skip)
    | ((conv => whnf); skip)
set_option maxRecDepth 100000 in
set_option maxHeartbeats 8000000 in
theorem Bytes_B1 (s : ByteArray) (hs : s.size < 9223372036854775808) (T : TypeId) (len cap : Nat) (hl : len < 9223372036854775808) (h100 : len ≤ 100) (x : IT) (f1 : (1000#64).slt (BitVec.ofNat 64 s.size) = false) (f2 : (100#64).slt (BitVec.ofNat 64 len) = false) (f3 : ((BitVec.ofNat 64 s.size).srem 8#64 != 0#64) = true) (f4 : (0#64).slt ((BitVec.ofNat 64 s.size).srem 8#64) = true) :
    FI Try.prog (tabMI Try.prog noData tb_b ms_b FSb 3) Try.f8 1 [.one (.str s), .one (.slc 0 0 len cap)] [(0, .ro T [.seg 5 len (inF x)])] (fun r _ => r = .one (.bool true)) := by
  repeat' (first
    | (with_reducible apply Given.mk; intro h; (try simp only [f1, f2, f3, f4, reduceCtorEq, decide_true, beq_self_eq_true] at h); (try ((fail_if_success (have _q := three)); exact absurd h (by decide))))
    | ((conv => whnf); first
      | with_reducible apply Both.mk
      | refine LoopP.times 1 ?_))
  all_goals first
    | (with_reducible apply Ob.mk; kernel_rfl)
    | (with_reducible apply Ob.mk; decide)
    | (with_reducible apply Ob.mk; with_reducible assumption)
    | ((with_reducible apply Ob.mk); exact ⟨Nat.le_refl _, by omega, .inr rfl⟩)
    | ((with_reducible apply Ob.mk); exact ⟨by decide, .inl rfl⟩)
    | ((conv => whnf); exact rfl)
    | ((conv => whnf); exact congrArg (fun b => AV.one (.bool b)) (decide_eq_true rfl))
    | (with_reducible apply Ob.mk; skip)
    | ((conv => whnf); skip)
set_option maxRecDepth 100000 in
set_option maxHeartbeats 8000000 in
theorem Bytes_C1 (s : ByteArray) (hs : s.size < 9223372036854775808) (T : TypeId) (len cap : Nat) (hl : len < 9223372036854775808) (h100 : len ≤ 100) (x : IT) (f1 : (1000#64).slt (BitVec.ofNat 64 s.size) = false) (f2 : (100#64).slt (BitVec.ofNat 64 len) = false) (f3 : ((BitVec.ofNat 64 s.size).srem 8#64 != 0#64) = false) (f4 : (0#64).slt ((BitVec.ofNat 64 s.size).srem 8#64) = false) (f5 : decide (s = { data := #[] }) = true) (f7 : ((BitVec.ofNat 64 s.size).sdiv 8#64).slt 1#64 = true) :
    FI Try.prog (tabMI Try.prog noData tb_b ms_b FSb 3) Try.f8 1 [.one (.str s), .one (.slc 0 0 len cap)] [(0, .ro T [.seg 5 len (inF x)])] (fun r _ => r = .one (.bool true)) := by
  repeat' (first
    | (with_reducible apply Given.mk; intro h; (try simp only [f1, f2, f3, f4, f5, f7, reduceCtorEq, decide_true, beq_self_eq_true] at h); (try ((fail_if_success (have _q := three)); exact absurd h (by decide))))
    | ((conv => whnf); first
      | with_reducible apply Both.mk
      | refine LoopP.times 1 ?_))
  all_goals first
    | (with_reducible apply Ob.mk; kernel_rfl)
    | (with_reducible apply Ob.mk; decide)
    | (with_reducible apply Ob.mk; with_reducible assumption)
    | ((with_reducible apply Ob.mk); exact ⟨Nat.le_refl _, by omega, .inr rfl⟩)
    | ((with_reducible apply Ob.mk); exact ⟨by decide, .inl rfl⟩)
    | ((conv => whnf); exact rfl)
    | ((conv => whnf); exact congrArg (fun b => AV.one (.bool b)) (decide_eq_true rfl))
    | (with_reducible apply Ob.mk; skip)
    | ((conv => whnf); skip)
set_option maxRecDepth 100000 in
set_option maxHeartbeats 8000000 in
theorem Bytes_D1 (s : ByteArray) (hs : s.size < 9223372036854775808) (T : TypeId) (len cap : Nat) (hl : len < 9223372036854775808) (h100 : len ≤ 100) (x : IT) (f1 : (1000#64).slt (BitVec.ofNat 64 s.size) = false) (f2 : (100#64).slt (BitVec.ofNat 64 len) = false) (f3 : ((BitVec.ofNat 64 s.size).srem 8#64 != 0#64) = false) (f4 : (0#64).slt ((BitVec.ofNat 64 s.size).srem 8#64) = false) (f5 : decide (s = { data := #[] }) = false) (f6 : (512#64).slt (BitVec.ofNat 64 s.size) = true) (f7 : ((BitVec.ofNat 64 s.size).sdiv 8#64).slt 1#64 = false) (f8 : (64#64).slt ((BitVec.ofNat 64 s.size).sdiv 8#64) = true) :
    FI Try.prog (tabMI Try.prog noData tb_b ms_b FSb 3) Try.f8 1 [.one (.str s), .one (.slc 0 0 len cap)] [(0, .ro T [.seg 5 len (inF x)])] (fun r _ => r = .one (.bool true)) := by
  repeat' (first
    | (with_reducible apply Given.mk; intro h; (try simp only [f1, f2, f3, f4, f5, f6, f7, f8, reduceCtorEq, decide_true, beq_self_eq_true] at h); (try ((fail_if_success (have _q := three)); exact absurd h (by decide))))
    | ((conv => whnf); first
      | with_reducible apply Both.mk
      | refine LoopP.times 1 ?_))
  all_goals first
    | (with_reducible apply Ob.mk; kernel_rfl)
    | (with_reducible apply Ob.mk; decide)
    | (with_reducible apply Ob.mk; with_reducible assumption)
    | ((with_reducible apply Ob.mk); exact ⟨Nat.le_refl _, by omega, .inr rfl⟩)
    | ((with_reducible apply Ob.mk); exact ⟨by decide, .inl rfl⟩)
    | ((conv => whnf); exact rfl)
    | ((conv => whnf); exact congrArg (fun b => AV.one (.bool b)) (decide_eq_true rfl))
    | (with_reducible apply Ob.mk; skip)
    | ((conv => whnf); skip)
set_option maxRecDepth 100000 in
set_option maxHeartbeats 8000000 in
theorem Bytes_E1 (s : ByteArray) (hs : s.size < 9223372036854775808) (T : TypeId) (len cap : Nat) (hl : len < 9223372036854775808) (h100 : len ≤ 100) (x : IT) (n : Nat) (hsz : s.size = 8 * n) (n1 : 1 ≤ n) (n64 : n ≤ 64) (f1 : (1000#64).slt (BitVec.ofNat 64 s.size) = false) (f2 : (100#64).slt (BitVec.ofNat 64 len) = false) (f3 : ((BitVec.ofNat 64 s.size).srem 8#64 != 0#64) = false) (f4 : (0#64).slt ((BitVec.ofNat 64 s.size).srem 8#64) = false) (f5 : decide (s = { data := #[] }) = false) (f6 : (512#64).slt (BitVec.ofNat 64 s.size) = false) (f7 : ((BitVec.ofNat 64 s.size).sdiv 8#64).slt 1#64 = false) (f8 : (64#64).slt ((BitVec.ofNat 64 s.size).sdiv 8#64) = false) (f9 : (0#64).slt (BitVec.ofNat 64 s.size) = true) :
    FI Try.prog (tabMI Try.prog noData tb_b ms_b FSb 3) Try.f8 1 [.one (.str s), .one (.slc 0 0 len cap)] [(0, .ro T [.seg 5 len (inF x)])] (fun r _ => r = .one (.bool true)) := by
  repeat' (first
    | (with_reducible apply Given.mk; intro h; (try simp only [f1, f2, f3, f4, f5, f6, f7, f8, f9, lenD hsz hs, reduceCtorEq, decide_true, beq_self_eq_true] at h); (try ((fail_if_success (have _q := three)); exact absurd h (by decide))))
    | ((conv => whnf); first
      | with_reducible apply Both.mk
      | ((fail_if_success (have _q := one)); refine LoopP.mk (Option Nat) (fun q => match q with | none => True | some k => 1 ≤ k ∧ k ≤ n) ((fun q => Option.rec (mkS (Try.f18).ntmps [(0, .one (.str s)), (2, .one (.raw (.slice none 0 0))), (4, .one (.b64 true 0#64))] [(0, .ro T [.seg 5 len (inF x)])]) (fun k => mkS (Try.f18).ntmps [(0, .one (.str s)), (2, .one (.rsl 83 k)), (4, .one (.b64 true (BitVec.ofNat 64 (8 * k))))] [(83, .row 37 5 k (inF (upT (dec s) k))), (0, .ro T [.seg 5 len (inF x)])]) q)) (fun q => Option.rec (n + 1) (fun k => n - k) q) ⟨none, trivial, ⟨?_, ?_, ?_, ?_, ?_⟩⟩ ?_; (focus ((repeat' ((conv => whnf); first | exact trivial | refine Both.mk (by first | with_reducible rfl | exact iN_succ _ | rfl) ?_)); done)); (focus ((repeat' ((conv => whnf); first | exact trivial | refine Both.mk (by first | with_reducible rfl | exact iN_succ _ | rfl) ?_)); done)); (focus exact rfl); (focus exact rfl); (focus exact rfl); (rintro (_ | k) one <;> (try (replace one : 1 ≤ k ∧ k ≤ n := one; have k64 : k ≤ 64 := Nat.le_trans one.2 n64; dsimp only))))
      | ((have _q := one); (fail_if_success (have _q := two)); have e1 : n = k := Nat.le_antisymm (ge8 k64 hsz hs (by with_reducible assumption)) one.2; subst e1; refine LoopP.mk (Nat) (fun k => k ≤ n) ((fun k => mkS (Try.f19).ntmps [(0, .one (.str s)), (4, .one (.b64 true ((BitVec.ofNat 64 s.size).sdiv 8#64))), (5, .one (.rsl 68 ((BitVec.ofNat 64 s.size).sdiv 8#64).toNat)), (6, iN k)] [(68, .row 37 5 ((BitVec.ofNat 64 s.size).sdiv 8#64).toNat (inF (fillT (dec s) k))), (21, .row 37 5 n (inF (upT (dec s) n))), (0, .ro T [.seg 5 len (inF x)])])) (fun k => n - k) ⟨0, Nat.zero_le _, ⟨?_, ?_, ?_, ?_, ?_⟩⟩ ?_; (focus ((repeat' ((conv => whnf); first | exact trivial | refine Both.mk (by first | with_reducible rfl | exact iN_succ _ | rfl) ?_)); done)); (focus ((repeat' ((conv => whnf); first | exact trivial | refine Both.mk (by first | with_reducible rfl | exact iN_succ _ | rfl) ?_)); done)); (focus exact rfl); (focus exact rfl); (focus exact rfl); (rintro j two; have j64 : j ≤ 64 := Nat.le_trans two n64; dsimp only))
      | ((have _q := two); (fail_if_success (have _q := three)); have e2 : n = j := Nat.le_antisymm (geD j64 hsz hs (by with_reducible assumption)) two; subst e2; refine LoopP.mk (Nat) (fun k => k ≤ n) ((fun k => mkS (Try.f13).ntmps [(0, .one (.rsl 21 n)), (1, .one (.rsl 26 ((BitVec.ofNat 64 s.size).sdiv 8#64).toNat)), (5, iN k)] [(26, .row 37 5 ((BitVec.ofNat 64 s.size).sdiv 8#64).toNat (inF (fillT (dec s) n))), (21, .row 37 5 n (inF (upT (dec s) n))), (0, .ro T [.seg 5 len (inF x)])])) (fun k => n - k) ⟨0, Nat.zero_le _, ⟨?_, ?_, ?_, ?_, ?_⟩⟩ ?_; (focus ((repeat' ((conv => whnf); first | exact trivial | refine Both.mk (by first | with_reducible rfl | exact iN_succ _ | rfl) ?_)); done)); (focus ((repeat' ((conv => whnf); first | exact trivial | refine Both.mk (by first | with_reducible rfl | exact iN_succ _ | rfl) ?_)); done)); (focus exact rfl); (focus exact rfl); (focus exact rfl); (rintro i three; have i64 : i ≤ 64 := Nat.le_trans three n64))))
  all_goals first
    | (with_reducible apply Ob.mk; kernel_rfl)
    | (with_reducible apply Ob.mk; decide)
    | (with_reducible apply Ob.mk; with_reducible assumption)
    | ((with_reducible apply Ob.mk); exact ⟨Nat.le_refl _, by omega, .inr rfl⟩)
    | ((with_reducible apply Ob.mk); exact ⟨by decide, .inl rfl⟩)
    | ((with_reducible apply Ob.mk); exact ⟨rfl, by rw [natD hsz hs]; omega⟩)
    | ((with_reducible apply Ob.mk); rw [natD hsz hs]; omega)
    | ((with_reducible apply Ob.mk); exact ⟨⟨by decide, by decide⟩, by decide, (by show 8 ≤ s.size; omega)⟩)
    | ((with_reducible apply Ob.mk); exact bnd8 k64 hsz (lt8 k64 hsz hs (by with_reducible assumption)))
    | ((with_reducible apply Ob.mk); exact bnd8' j64 hsz (ltD j64 hsz hs (by with_reducible assumption)))
    | ((with_reducible apply Ob.mk); exact exB_lt hs _ _)
    | ((with_reducible apply Ob.mk); rw [natD hsz hs]; exact ix_ofNat (by omega) (ltD j64 hsz hs (by with_reducible assumption)))
    | ((with_reducible apply Ob.mk); rw [natD hsz hs]; exact (ix_ofNat (by omega) (ltD j64 hsz hs (by with_reducible assumption))).2)
    | ((with_reducible apply Ob.mk); show n < 9223372036854775808; omega)
    | ((with_reducible apply Ob.mk); exact ixn n64 i64 (by with_reducible assumption))
    | ((with_reducible apply Ob.mk); exact (ixn n64 i64 (by with_reducible assumption)).2)
    | ((with_reducible apply Ob.mk); rw [natD hsz hs]; exact ixn n64 i64 (by with_reducible assumption))
    | ((with_reducible apply Ob.mk); rw [natD hsz hs]; exact (ixn n64 i64 (by with_reducible assumption)).2)
    | (exfalso; exact same_dead n64 i64 (by with_reducible assumption) (by with_reducible assumption))
    | ((with_reducible apply Ob.mk); exact ⟨rfl, fun _ => rfl, fun _ => rfl⟩)
    | ((with_reducible apply Ob.mk); exact Nat.le_refl _)
    | ((with_reducible apply Ob.mk); show k + 1 < 65536; omega)
    | ((with_reducible apply Ob.mk); exact fun _ => rfl)
    | ((conv => whnf); refine ⟨some 1, ⟨Nat.le_refl _, n1⟩, (by show n - 1 < n + 1; omega), ⟨?_, ?_, ?_, ?_, ?_⟩⟩; (focus ((repeat' ((conv => whnf); first | exact trivial | refine Both.mk (by first | with_reducible rfl | exact iN_succ _ | rfl) ?_)); done)); (focus ((repeat' ((conv => whnf); first | exact trivial | refine Both.mk (by first | with_reducible rfl | exact iN_succ _ | rfl) ?_)); done)); (focus exact rfl); (focus exact rfl); (focus exact rfl))
    | ((conv => whnf); refine ⟨some (k + 1), ⟨Nat.succ_le_succ (Nat.zero_le _), lt8 k64 hsz hs (by with_reducible assumption)⟩, (by have := lt8 k64 hsz hs (by with_reducible assumption); show n - (k + 1) < n - k; omega), ⟨?_, ?_, ?_, ?_, ?_⟩⟩; (focus ((repeat' ((conv => whnf); first | exact trivial | refine Both.mk (by first | with_reducible rfl | exact iN_succ _ | exact congrArg (fun v => AV.one (.b64 true v)) at8n | exact congrArg (Blk.row 37 5 (k + 1)) (upT_go (dec s) one.1 _ (dec_eq s (at8 k64) (at8p k64))) | rfl) ?_)); done)); (focus ((repeat' ((conv => whnf); first | exact trivial | refine Both.mk (by first | with_reducible rfl | exact iN_succ _ | exact congrArg (fun v => AV.one (.b64 true v)) at8n | exact congrArg (Blk.row 37 5 (k + 1)) (upT_go (dec s) one.1 _ (dec_eq s (at8 k64) (at8p k64))) | rfl) ?_)); done)); (focus exact rfl); (focus exact rfl); (focus exact rfl))
    | ((conv => whnf); refine ⟨j + 1, ltD j64 hsz hs (by with_reducible assumption), (by have := ltD j64 hsz hs (by with_reducible assumption); show n - (j + 1) < n - j; omega), ⟨?_, ?_, ?_, ?_, ?_⟩⟩; (focus ((repeat' ((conv => whnf); first | exact trivial | refine Both.mk (by first | with_reducible rfl | exact iN_succ _ | exact congrArg (Blk.row 37 5 _) (fillT_go (dec s) j _ _ (nat_ofNat (by omega)) (dec_eq s (by rw [mul8, at8 j64]) (by rw [mul8, at8p j64]))) | rfl) ?_)); done)); (focus ((repeat' ((conv => whnf); first | exact trivial | refine Both.mk (by first | with_reducible rfl | exact iN_succ _ | exact congrArg (Blk.row 37 5 _) (fillT_go (dec s) j _ _ (nat_ofNat (by omega)) (dec_eq s (by rw [mul8, at8 j64]) (by rw [mul8, at8p j64]))) | rfl) ?_)); done)); (focus exact rfl); (focus exact rfl); (focus exact rfl))
    | ((conv => whnf); refine ⟨i + 1, ltn n64 i64 (by with_reducible assumption), (by have := ltn n64 i64 (by with_reducible assumption); show n - (i + 1) < n - i; omega), ⟨?_, ?_, ?_, ?_, ?_⟩⟩; (focus ((repeat' ((conv => whnf); first | exact trivial | refine Both.mk (by first | with_reducible rfl | exact iN_succ _ | rfl) ?_)); done)); (focus ((repeat' ((conv => whnf); first | exact trivial | refine Both.mk (by first | with_reducible rfl | exact iN_succ _ | rfl) ?_)); done)); (focus exact rfl); (focus exact rfl); (focus exact rfl))
    | ((conv => whnf); exact rfl)
    | ((conv => whnf); exact congrArg (fun b => AV.one (.bool b)) (decide_eq_true rfl))
    | (with_reducible apply Ob.mk; skip)
    | ((conv => whnf); skip)
set_option maxRecDepth 100000 in
set_option maxHeartbeats 8000000 in
theorem Bytes_A0 (s : ByteArray) (hs : s.size < 9223372036854775808) (ad : Option Addr) (cap : Nat) (f1 : (1000#64).slt (BitVec.ofNat 64 s.size) = true) :
    FI Try.prog (tabMI Try.prog noData tb_b ms_b FSb 3) Try.f8 1 [.one (.str s), .one (.raw (.slice ad 0 cap))] [] (fun r _ => r = .one (.bool true)) := by
  repeat' (first
    | (with_reducible apply Given.mk; intro h; (try simp only [f1, reduceCtorEq, decide_true, beq_self_eq_true] at h); (try ((fail_if_success (have _q := three)); exact absurd h (by decide))))
    | ((conv => whnf); first
      | with_reducible apply Both.mk
      | refine LoopP.times 1 ?_))
  all_goals first
    | (with_reducible apply Ob.mk; kernel_rfl)
    | (with_reducible apply Ob.mk; decide)
    | (with_reducible apply Ob.mk; with_reducible assumption)
    | ((with_reducible apply Ob.mk); exact ⟨Nat.le_refl _, by omega, .inr rfl⟩)
    | ((with_reducible apply Ob.mk); exact ⟨by decide, .inl rfl⟩)
    | ((conv => whnf); exact rfl)
    | ((conv => whnf); exact congrArg (fun b => AV.one (.bool b)) (decide_eq_true rfl))
    | (with_reducible apply Ob.mk; skip)
    | ((conv => whnf); skip)
set_option maxRecDepth 100000 in
set_option maxHeartbeats 8000000 in
theorem Bytes_B0 (s : ByteArray) (hs : s.size < 9223372036854775808) (ad : Option Addr) (cap : Nat) (f1 : (1000#64).slt (BitVec.ofNat 64 s.size) = false) (f2 : (100#64).slt 0#64 = false) (f3 : ((BitVec.ofNat 64 s.size).srem 8#64 != 0#64) = true) (f4 : (0#64).slt ((BitVec.ofNat 64 s.size).srem 8#64) = true) :
    FI Try.prog (tabMI Try.prog noData tb_b ms_b FSb 3) Try.f8 1 [.one (.str s), .one (.raw (.slice ad 0 cap))] [] (fun r _ => r = .one (.bool true)) := by
  repeat' (first
    | (with_reducible apply Given.mk; intro h; (try simp only [f1, f2, f3, f4, reduceCtorEq, decide_true, beq_self_eq_true] at h); (try ((fail_if_success (have _q := three)); exact absurd h (by decide))))
    | ((conv => whnf); first
      | with_reducible apply Both.mk
      | refine LoopP.times 1 ?_))
  all_goals first
    | (with_reducible apply Ob.mk; kernel_rfl)
    | (with_reducible apply Ob.mk; decide)
    | (with_reducible apply Ob.mk; with_reducible assumption)
    | ((with_reducible apply Ob.mk); exact ⟨Nat.le_refl _, by omega, .inr rfl⟩)
    | ((with_reducible apply Ob.mk); exact ⟨by decide, .inl rfl⟩)
    | ((conv => whnf); exact rfl)
    | ((conv => whnf); exact congrArg (fun b => AV.one (.bool b)) (decide_eq_true rfl))
    | (with_reducible apply Ob.mk; skip)
    | ((conv => whnf); skip)
set_option maxRecDepth 100000 in
set_option maxHeartbeats 8000000 in
theorem Bytes_C0 (s : ByteArray) (hs : s.size < 9223372036854775808) (ad : Option Addr) (cap : Nat) (f1 : (1000#64).slt (BitVec.ofNat 64 s.size) = false) (f2 : (100#64).slt 0#64 = false) (f3 : ((BitVec.ofNat 64 s.size).srem 8#64 != 0#64) = false) (f4 : (0#64).slt ((BitVec.ofNat 64 s.size).srem 8#64) = false) (f5 : decide (s = { data := #[] }) = true) (f7 : ((BitVec.ofNat 64 s.size).sdiv 8#64).slt 1#64 = true) :
    FI Try.prog (tabMI Try.prog noData tb_b ms_b FSb 3) Try.f8 1 [.one (.str s), .one (.raw (.slice ad 0 cap))] [] (fun r _ => r = .one (.bool true)) := by
  repeat' (first
    | (with_reducible apply Given.mk; intro h; (try simp only [f1, f2, f3, f4, f5, f7, reduceCtorEq, decide_true, beq_self_eq_true] at h); (try ((fail_if_success (have _q := three)); exact absurd h (by decide))))
    | ((conv => whnf); first
      | with_reducible apply Both.mk
      | refine LoopP.times 1 ?_))
  all_goals first
    | (with_reducible apply Ob.mk; kernel_rfl)
    | (with_reducible apply Ob.mk; decide)
    | (with_reducible apply Ob.mk; with_reducible assumption)
    | ((with_reducible apply Ob.mk); exact ⟨Nat.le_refl _, by omega, .inr rfl⟩)
    | ((with_reducible apply Ob.mk); exact ⟨by decide, .inl rfl⟩)
    | ((conv => whnf); exact rfl)
    | ((conv => whnf); exact congrArg (fun b => AV.one (.bool b)) (decide_eq_true rfl))
    | (with_reducible apply Ob.mk; skip)
    | ((conv => whnf); skip)
set_option maxRecDepth 100000 in
set_option maxHeartbeats 8000000 in
theorem Bytes_D0 (s : ByteArray) (hs : s.size < 9223372036854775808) (ad : Option Addr) (cap : Nat) (f1 : (1000#64).slt (BitVec.ofNat 64 s.size) = false) (f2 : (100#64).slt 0#64 = false) (f3 : ((BitVec.ofNat 64 s.size).srem 8#64 != 0#64) = false) (f4 : (0#64).slt ((BitVec.ofNat 64 s.size).srem 8#64) = false) (f5 : decide (s = { data := #[] }) = false) (f6 : (512#64).slt (BitVec.ofNat 64 s.size) = true) (f7 : ((BitVec.ofNat 64 s.size).sdiv 8#64).slt 1#64 = false) (f8 : (64#64).slt ((BitVec.ofNat 64 s.size).sdiv 8#64) = true) :
    FI Try.prog (tabMI Try.prog noData tb_b ms_b FSb 3) Try.f8 1 [.one (.str s), .one (.raw (.slice ad 0 cap))] [] (fun r _ => r = .one (.bool true)) := by
  repeat' (first
    | (with_reducible apply Given.mk; intro h; (try simp only [f1, f2, f3, f4, f5, f6, f7, f8, reduceCtorEq, decide_true, beq_self_eq_true] at h); (try ((fail_if_success (have _q := three)); exact absurd h (by decide))))
    | ((conv => whnf); first
      | with_reducible apply Both.mk
      | refine LoopP.times 1 ?_))
  all_goals first
    | (with_reducible apply Ob.mk; kernel_rfl)
    | (with_reducible apply Ob.mk; decide)
    | (with_reducible apply Ob.mk; with_reducible assumption)
    | ((with_reducible apply Ob.mk); exact ⟨Nat.le_refl _, by omega, .inr rfl⟩)
    | ((with_reducible apply Ob.mk); exact ⟨by decide, .inl rfl⟩)
    | ((conv => whnf); exact rfl)
    | ((conv => whnf); exact congrArg (fun b => AV.one (.bool b)) (decide_eq_true rfl))
    | (with_reducible apply Ob.mk; skip)
    | ((conv => whnf); skip)
set_option maxRecDepth 100000 in
set_option maxHeartbeats 8000000 in
theorem Bytes_E0 (s : ByteArray) (hs : s.size < 9223372036854775808) (ad : Option Addr) (cap : Nat) (n : Nat) (hsz : s.size = 8 * n) (n1 : 1 ≤ n) (n64 : n ≤ 64) (f1 : (1000#64).slt (BitVec.ofNat 64 s.size) = false) (f2 : (100#64).slt 0#64 = false) (f3 : ((BitVec.ofNat 64 s.size).srem 8#64 != 0#64) = false) (f4 : (0#64).slt ((BitVec.ofNat 64 s.size).srem 8#64) = false) (f5 : decide (s = { data := #[] }) = false) (f6 : (512#64).slt (BitVec.ofNat 64 s.size) = false) (f7 : ((BitVec.ofNat 64 s.size).sdiv 8#64).slt 1#64 = false) (f8 : (64#64).slt ((BitVec.ofNat 64 s.size).sdiv 8#64) = false) (f9 : (0#64).slt (BitVec.ofNat 64 s.size) = true) :
    FI Try.prog (tabMI Try.prog noData tb_b ms_b FSb 3) Try.f8 1 [.one (.str s), .one (.raw (.slice ad 0 cap))] [] (fun r _ => r = .one (.bool true)) := by
  repeat' (first
    | (with_reducible apply Given.mk; intro h; (try simp only [f1, f2, f3, f4, f5, f6, f7, f8, f9, lenD hsz hs, reduceCtorEq, decide_true, beq_self_eq_true] at h); (try ((fail_if_success (have _q := three)); exact absurd h (by decide))))
    | ((conv => whnf); first
      | with_reducible apply Both.mk
      | ((fail_if_success (have _q := one)); refine LoopP.mk (Option Nat) (fun q => match q with | none => True | some k => 1 ≤ k ∧ k ≤ n) ((fun q => Option.rec (mkS (Try.f18).ntmps [(0, .one (.str s)), (2, .one (.raw (.slice none 0 0))), (4, .one (.b64 true 0#64))] []) (fun k => mkS (Try.f18).ntmps [(0, .one (.str s)), (2, .one (.rsl 83 k)), (4, .one (.b64 true (BitVec.ofNat 64 (8 * k))))] [(83, .row 37 5 k (inF (upT (dec s) k)))]) q)) (fun q => Option.rec (n + 1) (fun k => n - k) q) ⟨none, trivial, ⟨?_, ?_, ?_, ?_, ?_⟩⟩ ?_; (focus ((repeat' ((conv => whnf); first | exact trivial | refine Both.mk (by first | with_reducible rfl | exact iN_succ _ | rfl) ?_)); done)); (focus ((repeat' ((conv => whnf); first | exact trivial | refine Both.mk (by first | with_reducible rfl | exact iN_succ _ | rfl) ?_)); done)); (focus exact rfl); (focus exact rfl); (focus exact rfl); (rintro (_ | k) one <;> (try (replace one : 1 ≤ k ∧ k ≤ n := one; have k64 : k ≤ 64 := Nat.le_trans one.2 n64; dsimp only))))
      | ((have _q := one); (fail_if_success (have _q := two)); have e1 : n = k := Nat.le_antisymm (ge8 k64 hsz hs (by with_reducible assumption)) one.2; subst e1; refine LoopP.mk (Nat) (fun k => k ≤ n) ((fun k => mkS (Try.f19).ntmps [(0, .one (.str s)), (4, .one (.b64 true ((BitVec.ofNat 64 s.size).sdiv 8#64))), (5, .one (.rsl 68 ((BitVec.ofNat 64 s.size).sdiv 8#64).toNat)), (6, iN k)] [(68, .row 37 5 ((BitVec.ofNat 64 s.size).sdiv 8#64).toNat (inF (fillT (dec s) k))), (21, .row 37 5 n (inF (upT (dec s) n)))])) (fun k => n - k) ⟨0, Nat.zero_le _, ⟨?_, ?_, ?_, ?_, ?_⟩⟩ ?_; (focus ((repeat' ((conv => whnf); first | exact trivial | refine Both.mk (by first | with_reducible rfl | exact iN_succ _ | rfl) ?_)); done)); (focus ((repeat' ((conv => whnf); first | exact trivial | refine Both.mk (by first | with_reducible rfl | exact iN_succ _ | rfl) ?_)); done)); (focus exact rfl); (focus exact rfl); (focus exact rfl); (rintro j two; have j64 : j ≤ 64 := Nat.le_trans two n64; dsimp only))
      | ((have _q := two); (fail_if_success (have _q := three)); have e2 : n = j := Nat.le_antisymm (geD j64 hsz hs (by with_reducible assumption)) two; subst e2; refine LoopP.mk (Nat) (fun k => k ≤ n) ((fun k => mkS (Try.f13).ntmps [(0, .one (.rsl 21 n)), (1, .one (.rsl 26 ((BitVec.ofNat 64 s.size).sdiv 8#64).toNat)), (5, iN k)] [(26, .row 37 5 ((BitVec.ofNat 64 s.size).sdiv 8#64).toNat (inF (fillT (dec s) n))), (21, .row 37 5 n (inF (upT (dec s) n)))])) (fun k => n - k) ⟨0, Nat.zero_le _, ⟨?_, ?_, ?_, ?_, ?_⟩⟩ ?_; (focus ((repeat' ((conv => whnf); first | exact trivial | refine Both.mk (by first | with_reducible rfl | exact iN_succ _ | rfl) ?_)); done)); (focus ((repeat' ((conv => whnf); first | exact trivial | refine Both.mk (by first | with_reducible rfl | exact iN_succ _ | rfl) ?_)); done)); (focus exact rfl); (focus exact rfl); (focus exact rfl); (rintro i three; have i64 : i ≤ 64 := Nat.le_trans three n64))))
  all_goals first
    | (with_reducible apply Ob.mk; kernel_rfl)
    | (with_reducible apply Ob.mk; decide)
    | (with_reducible apply Ob.mk; with_reducible assumption)
    | ((with_reducible apply Ob.mk); exact ⟨Nat.le_refl _, by omega, .inr rfl⟩)
    | ((with_reducible apply Ob.mk); exact ⟨by decide, .inl rfl⟩)
    | ((with_reducible apply Ob.mk); exact ⟨rfl, by rw [natD hsz hs]; omega⟩)
    | ((with_reducible apply Ob.mk); rw [natD hsz hs]; omega)
    | ((with_reducible apply Ob.mk); exact ⟨⟨by decide, by decide⟩, by decide, (by show 8 ≤ s.size; omega)⟩)
    | ((with_reducible apply Ob.mk); exact bnd8 k64 hsz (lt8 k64 hsz hs (by with_reducible assumption)))
    | ((with_reducible apply Ob.mk); exact bnd8' j64 hsz (ltD j64 hsz hs (by with_reducible assumption)))
    | ((with_reducible apply Ob.mk); exact exB_lt hs _ _)
    | ((with_reducible apply Ob.mk); rw [natD hsz hs]; exact ix_ofNat (by omega) (ltD j64 hsz hs (by with_reducible assumption)))
    | ((with_reducible apply Ob.mk); rw [natD hsz hs]; exact (ix_ofNat (by omega) (ltD j64 hsz hs (by with_reducible assumption))).2)
    | ((with_reducible apply Ob.mk); show n < 9223372036854775808; omega)
    | ((with_reducible apply Ob.mk); exact ixn n64 i64 (by with_reducible assumption))
    | ((with_reducible apply Ob.mk); exact (ixn n64 i64 (by with_reducible assumption)).2)
    | ((with_reducible apply Ob.mk); rw [natD hsz hs]; exact ixn n64 i64 (by with_reducible assumption))
    | ((with_reducible apply Ob.mk); rw [natD hsz hs]; exact (ixn n64 i64 (by with_reducible assumption)).2)
    | (exfalso; exact same_dead n64 i64 (by with_reducible assumption) (by with_reducible assumption))
    | ((with_reducible apply Ob.mk); exact ⟨rfl, fun _ => rfl, fun _ => rfl⟩)
    | ((with_reducible apply Ob.mk); exact Nat.le_refl _)
    | ((with_reducible apply Ob.mk); show k + 1 < 65536; omega)
    | ((with_reducible apply Ob.mk); exact fun _ => rfl)
    | ((conv => whnf); refine ⟨some 1, ⟨Nat.le_refl _, n1⟩, (by show n - 1 < n + 1; omega), ⟨?_, ?_, ?_, ?_, ?_⟩⟩; (focus ((repeat' ((conv => whnf); first | exact trivial | refine Both.mk (by first | with_reducible rfl | exact iN_succ _ | rfl) ?_)); done)); (focus ((repeat' ((conv => whnf); first | exact trivial | refine Both.mk (by first | with_reducible rfl | exact iN_succ _ | rfl) ?_)); done)); (focus exact rfl); (focus exact rfl); (focus exact rfl))
    | ((conv => whnf); refine ⟨some (k + 1), ⟨Nat.succ_le_succ (Nat.zero_le _), lt8 k64 hsz hs (by with_reducible assumption)⟩, (by have := lt8 k64 hsz hs (by with_reducible assumption); show n - (k + 1) < n - k; omega), ⟨?_, ?_, ?_, ?_, ?_⟩⟩; (focus ((repeat' ((conv => whnf); first | exact trivial | refine Both.mk (by first | with_reducible rfl | exact iN_succ _ | exact congrArg (fun v => AV.one (.b64 true v)) at8n | exact congrArg (Blk.row 37 5 (k + 1)) (upT_go (dec s) one.1 _ (dec_eq s (at8 k64) (at8p k64))) | rfl) ?_)); done)); (focus ((repeat' ((conv => whnf); first | exact trivial | refine Both.mk (by first | with_reducible rfl | exact iN_succ _ | exact congrArg (fun v => AV.one (.b64 true v)) at8n | exact congrArg (Blk.row 37 5 (k + 1)) (upT_go (dec s) one.1 _ (dec_eq s (at8 k64) (at8p k64))) | rfl) ?_)); done)); (focus exact rfl); (focus exact rfl); (focus exact rfl))
    | ((conv => whnf); refine ⟨j + 1, ltD j64 hsz hs (by with_reducible assumption), (by have := ltD j64 hsz hs (by with_reducible assumption); show n - (j + 1) < n - j; omega), ⟨?_, ?_, ?_, ?_, ?_⟩⟩; (focus ((repeat' ((conv => whnf); first | exact trivial | refine Both.mk (by first | with_reducible rfl | exact iN_succ _ | exact congrArg (Blk.row 37 5 _) (fillT_go (dec s) j _ _ (nat_ofNat (by omega)) (dec_eq s (by rw [mul8, at8 j64]) (by rw [mul8, at8p j64]))) | rfl) ?_)); done)); (focus ((repeat' ((conv => whnf); first | exact trivial | refine Both.mk (by first | with_reducible rfl | exact iN_succ _ | exact congrArg (Blk.row 37 5 _) (fillT_go (dec s) j _ _ (nat_ofNat (by omega)) (dec_eq s (by rw [mul8, at8 j64]) (by rw [mul8, at8p j64]))) | rfl) ?_)); done)); (focus exact rfl); (focus exact rfl); (focus exact rfl))
    | ((conv => whnf); refine ⟨i + 1, ltn n64 i64 (by with_reducible assumption), (by have := ltn n64 i64 (by with_reducible assumption); show n - (i + 1) < n - i; omega), ⟨?_, ?_, ?_, ?_, ?_⟩⟩; (focus ((repeat' ((conv => whnf); first | exact trivial | refine Both.mk (by first | with_reducible rfl | exact iN_succ _ | rfl) ?_)); done)); (focus ((repeat' ((conv => whnf); first | exact trivial | refine Both.mk (by first | with_reducible rfl | exact iN_succ _ | rfl) ?_)); done)); (focus exact rfl); (focus exact rfl); (focus exact rfl))
    | ((conv => whnf); exact rfl)
    | ((conv => whnf); exact congrArg (fun b => AV.one (.bool b)) (decide_eq_true rfl))
    | (with_reducible apply Ob.mk; skip)
    | ((conv => whnf); skip)
theorem facts_of (s : ByteArray) (hs : s.size < 9223372036854775808) (k : Nat) (hk : k < 9223372036854775808) :
    (1000 < s.size ∧ (1000#64).slt (BitVec.ofNat 64 s.size) = true) ∨ ((1000#64).slt (BitVec.ofNat 64 s.size) = false ∧ (
    (s.size % 8 ≠ 0 ∧ ((BitVec.ofNat 64 s.size).srem 8#64 != 0#64) = true ∧ (0#64).slt ((BitVec.ofNat 64 s.size).srem 8#64) = true) ∨
    (((BitVec.ofNat 64 s.size).srem 8#64 != 0#64) = false ∧ (0#64).slt ((BitVec.ofNat 64 s.size).srem 8#64) = false ∧ (
    (decide (s = { data := #[] }) = true ∧ ((BitVec.ofNat 64 s.size).sdiv 8#64).slt 1#64 = true) ∨
    (decide (s = { data := #[] }) = false ∧ ((BitVec.ofNat 64 s.size).sdiv 8#64).slt 1#64 = false ∧ (
    ((512#64).slt (BitVec.ofNat 64 s.size) = true ∧ (64#64).slt ((BitVec.ofNat 64 s.size).sdiv 8#64) = true) ∨
    ∃ n, s.size = 8 * n ∧ 1 ≤ n ∧ n ≤ 64 ∧ (512#64).slt (BitVec.ofNat 64 s.size) = false ∧ (64#64).slt ((BitVec.ofNat 64 s.size).sdiv 8#64) = false ∧ (0#64).slt (BitVec.ofNat 64 s.size) = true)))))) := by
  have g1 := slt_nat (a := 1000) (by decide) hs
  have g4 := slt_nat (a := 0) (b := s.size % 8) (by decide) (by omega)
  have g6 := slt_nat (a := 512) (by decide) hs
  have g7 := slt_nat (a := s.size / 8) (b := 1) (by omega) (by decide)
  have g8 := slt_nat (a := 64) (b := s.size / 8) (by decide) (by omega)
  have g9 := slt_nat (a := 0) (by decide) hs
  rw [srem8 hs, sdiv8 hs, ne0 (by omega), g1, g4, g6, g7, g8, g9]
  simp only [decide_eq_true_eq, decide_eq_false_iff_not]
  by_cases h1 : 1000 < s.size
  · exact .inl ⟨h1, h1⟩
  refine .inr ⟨h1, ?_⟩
  by_cases h3 : s.size % 8 ≠ 0
  · exact .inl ⟨h3, h3, by omega⟩
  refine .inr ⟨h3, by omega, ?_⟩
  by_cases h5 : s.size = 0
  · exact .inl ⟨size_zero h5, by omega⟩
  refine .inr ⟨fun e => h5 (by rw [e]; rfl), by omega, ?_⟩
  by_cases h6 : 512 < s.size
  · exact .inl ⟨h6, by omega⟩
  exact .inr ⟨s.size / 8, by omega, by omega, by omega, h6, by omega, by omega⟩
set_option maxRecDepth 100000 in
theorem ProgsBytes_main1 (s : ByteArray) (hs : s.size < 9223372036854775808) (T : TypeId) (len cap : Nat) (hl : len < 9223372036854775808) (x : IT) :
    FI Try.prog (tabMI Try.prog noData tb_b ms_b FSb 3) Try.f8 1 [.one (.str s), .one (.slc 0 0 len cap)] [(0, .ro T [.seg 5 len (inF x)])] (fun r _ => r = .one (.bool true)) := by
  have g2 := slt_nat (a := 100) (by decide) hl
  rcases facts_of s hs len hl with ⟨-, f1⟩ | ⟨f1, h⟩
  · exact Bytes_A1 s hs T len cap hl x f1
  by_cases h100 : 100 < len
  · exact Bytes_Z1 s hs T len cap hl x f1 (g2.trans (decide_eq_true h100))
  have f2 := g2.trans (decide_eq_false h100)
  rcases h with ⟨-, f3, f4⟩ | ⟨f3, f4, h⟩
  · exact Bytes_B1 s hs T len cap hl (by omega) x f1 f2 f3 f4
  rcases h with ⟨f5, f7⟩ | ⟨f5, f7, h⟩
  · exact Bytes_C1 s hs T len cap hl (by omega) x f1 f2 f3 f4 f5 f7
  rcases h with ⟨f6, f8⟩ | ⟨n, hsz, n1, n64, f6, f8, f9⟩
  · exact Bytes_D1 s hs T len cap hl (by omega) x f1 f2 f3 f4 f5 f6 f7 f8
  · exact Bytes_E1 s hs T len cap hl (by omega) x n hsz n1 n64 f1 f2 f3 f4 f5 f6 f7 f8 f9
set_option maxRecDepth 100000 in
theorem ProgsBytes_main0 (s : ByteArray) (hs : s.size < 9223372036854775808) (ad : Option Addr) (cap : Nat) :
    FI Try.prog (tabMI Try.prog noData tb_b ms_b FSb 3) Try.f8 1 [.one (.str s), .one (.raw (.slice ad 0 cap))] [] (fun r _ => r = .one (.bool true)) := by
  rcases facts_of s hs 0 (by decide) with ⟨-, f1⟩ | ⟨f1, h⟩
  · exact Bytes_A0 s hs ad cap f1
  have f2 : (100#64).slt 0#64 = false := by decide
  rcases h with ⟨-, f3, f4⟩ | ⟨f3, f4, h⟩
  · exact Bytes_B0 s hs ad cap f1 f2 f3 f4
  rcases h with ⟨f5, f7⟩ | ⟨f5, f7, h⟩
  · exact Bytes_C0 s hs ad cap f1 f2 f3 f4 f5 f7
  rcases h with ⟨f6, f8⟩ | ⟨n, hsz, n1, n64, f6, f8, f9⟩
  · exact Bytes_D0 s hs ad cap f1 f2 f3 f4 f5 f6 f7 f8
  · exact Bytes_E0 s hs ad cap n hsz n1 n64 f1 f2 f3 f4 f5 f6 f7 f8 f9
end Go.Proofs.Ytdaioplfgbgggaa
