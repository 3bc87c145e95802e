/-
  Chapter 04: the document's line: a contract by the kind of the answer. Conditions: as typed.
-/
import Derived.Test.YtdaioplfgbgggaaTi
import Derived.Test.YtdaioplfgbgggaaTj
import Derived.Test.YtdaioplfgbgggaaPy
import Derived.Test.YtdaioplfgbgggaaOz
import Derived.Test.YtdaioplfgbgggaaOf
import Derived.Test.YtdaioplfgbgggaaPo
namespace Go.Proofs.Ytdaioplfgbgggaa
open Go.Ep Go.RowKit
set_option linter.unusedVariables false
set_option linter.unusedSimpArgs false
def h_line : SpHL := fun len g pre => match pre with
  | [] => some (hkL (Cond.p (len ≤ 4001 ∧ Short g ∧ 1 ≤ len)))
  | _ => none
set_option maxRecDepth 100000 in
theorem e_line : EntryHL Try.prog anyWorld 34 h_line := by
  refine .of_FI C_line (by kernel_rfl) Try.func34 (by kernel_rfl) (by kernel_rfl) (fun len g pre a h hc => ?_)
  unfold h_line at h
  split at h
  · cases h
    refine ⟨rfl, fun _ => rfl, fun _ => rfl, fun _ => ⟨rfl, rfl⟩, fun T cap hlc => ?_⟩
    obtain ⟨hl, ⟨hg, hz⟩, hx⟩ := hc
    generalize sOf g = wg at hg hz
    subst hg
    rcases Nat.lt_or_ge 1 cap with h2 | h2
    · obtain ⟨c, rfl⟩ : ∃ c, cap = c + 2 := ⟨cap - 2, by omega⟩
      exact line_walk2 T len c wg hl hz hlc hx
    · obtain rfl : cap = 1 := by omega
      obtain rfl : len = 1 := by omega
      exact line_walk1 T wg hz
  · cases h
end Go.Proofs.Ytdaioplfgbgggaa
/-
  Functions gone through in their callers' places, with contracts of any kind at every depth. Conditions: as typed.
-/
namespace Go.Ep
open Go.RowKit
set_option linter.unusedVariables false
set_option linter.unusedSimpArgs false
abbrev InlF := FuncId → Nat → List AV → List (Nat × Blk) → (AV → List (Nat × Blk) → Prop) → Prop
noncomputable def inlNW (P : Program) (C : Table) (W : InlF → InlF) (fs : List (Nat × Func)) (n : Nat) : InlF :=
  Nat.rec (motive := fun _ => InlF) (W fun _ _ _ _ _ => Stuck "deep")
    (fun _ ih => W fun f tp args h K => match findF fs f with
      | some fn => FI P (withInl C ih) fn tp args h K
      | none => Stuck "call") n
section
variable {P : Program} {G : World → Prop} {D : VData} {C : Table}
theorem inlNW_sound (hC : CSound P G C) (hm : P.follows .mixedOrders = true) {W : InlF → InlF} (hW : ∀ b, InlOK P G b → InlOK P G (W b)) {fs : List (Nat × Func)} (hfs : FsOK P fs) : ∀ n, InlOK P G (inlNW P C W fs n)
  | 0 => hW _ fun _ _ _ _ _ h => by cases (h : Stuck "deep")
  | n + 1 => hW _ fun f tp args h K hF hlt hn => by
    have hF : (match (generalizing := false) findF fs f with
      | some fn => FI P (withInl C (inlNW P C W fs n)) fn tp args h K
      | none => Stuck "call") := hF
    split at hF
    · rename_i fn hfn
      obtain ⟨h1, h2, h3⟩ := hfs f fn hfn
      exact ⟨⟨fn, h1, h2, h3⟩, fun b w0 ρ us w hG hb hargs H => FI_sound (C := withInl C (inlNW P C W fs n)) (hC.inl' (inlNW_sound hC hm hW hfs n) C.app C.nm C.tp C.im C.mks) hm h1 hF hlt hn b w0 ρ us w hG hb hargs H⟩
    · cases hF
abbrev tabW3 (P : Program) (D : VData) (l : List (Nat × Sp)) (ms : List (Nat × SpM)) (hs : List (Nat × SpH)) (ks : List (Nat × SpHK)) (ls : List (Nat × SpHL)) (fs : List (Nat × Func)) (n : Nat) : Table :=
  withInl (tabM D l ms) (inlNW P (tabM D l ms) (fun b => hkInl ks (hlInl ls (hInl hs b))) fs n)
theorem CSound.tabW3 {l : List (Nat × Sp)} {ms : List (Nat × SpM)} (h : CSound P G (tabM D l ms)) (hm : P.follows .mixedOrders = true) {hs : List (Nat × SpH)} (hw : EntriesH P G hs) {ks : List (Nat × SpHK)} (hk : EntriesHK P G ks) {ls : List (Nat × SpHL)} (hl : EntriesHL P G ls)
    {fs : List (Nat × Func)} (hfs : FsOK P fs) (n : Nat) : CSound P G (tabW3 P D l ms hs ks ls fs n) :=
  h.inl' (inlNW_sound h hm (fun _ hb => hkInl_sound hk (hlInl_sound h.stable hl (hInl_sound hw hb))) hfs n) .sym 0 0 [] []
end
end Go.Ep
/-
  Chapter 04: the document's Read: a contract by the kind of its answer. Conditions: as typed.
-/
namespace Go.Proofs.Ytdaioplfgbgggaa
open Go.Ep Go.RowKit
set_option linter.unusedVariables false
set_option linter.unusedSimpArgs false
noncomputable abbrev C_u : Table := withHL (withHK (tab noData tb_t) [(33, h_words)]) [(34, h_line)]
theorem CI_u : CSound Try.prog anyWorld C_u := (C_t.withHK (.cons e_words .nil)).withHL (.cons e_line .nil)
structure RD (s : ByteArray) (q : Option (Nat × IT)) (f k : Nat) : Prop where
  hk : k ≤ s.size + 1
  hf : f ≤ k
  hq : match q with
    | none => True
    | some (n, g) => 1 ≤ n ∧ n ≤ 64
theorem le_sz {s : ByteArray} {k : Nat} (hs : s.size ≤ 4000) (hk : k ≤ s.size + 1) (h : (BitVec.ofNat 64 k).sle (BitVec.ofNat 64 s.size) = true) : k ≤ s.size := by
  rw [sle_nat (by omega) (by omega)] at h
  exact of_decide_eq_true h
theorem rd_sl {s : ByteArray} {f k : Nat} (hs : s.size ≤ 4000) (hf : f ≤ k) (hk : k ≤ s.size) : (0 ≤ (BitVec.ofNat 64 f).toInt ∧ 0 ≤ (BitVec.ofNat 64 k).toInt) ∧ (BitVec.ofNat 64 f).toNat ≤ (BitVec.ofNat 64 k).toNat ∧ (BitVec.ofNat 64 k).toNat ≤ s.size := by
  rw [nat_ofNat (by omega), nat_ofNat (by omega), toInt_ofNat (by omega), toInt_ofNat (by omega)]
  omega
abbrev WR (wn : Nat) (wg : Nat → ByteArray) : Prop := 1 ≤ wn ∧ wn ≤ 4001 ∧ ∀ j, (wg j).size ≤ 4000
theorem le64 {n : Nat} (hn : n ≤ 66) (h : (64#64).slt (BitVec.ofNat 64 n) = false) : n ≤ 64 := by
  have h3 : (BitVec.ofNat 64 64).slt (BitVec.ofNat 64 n) = false := h
  rw [slt_nat (by decide) (by omega)] at h3
  have := of_decide_eq_false h3
  omega
/-- No slots, and what is wrong; or a program's slots. -/
def hkR (c : Cond) : HK := ⟨c, BitVec 64 × BitVec 64, fun _ => True, fun k => .tup [(false, [.raw (.slice none 0 0)]), (false, [.b64 true k.1]), (false, [.b64 true k.2])], Nat × IT, fun k => 1 ≤ k.1 ∧ k.1 ≤ 64, fun k => k.1, fun _ => [(false, [.b64 true 0#64]), (false, [.b64 true 0#64])], fun k => .row 37 5 k.1 (inF k.2)⟩
abbrev KR (c : Cond) : AV → List (Nat × Blk) → Prop := fun r h => (∃ k, (hkR c).ok1 k ∧ r = (hkR c).v1 k) ∨ ∃ k x, (hkR c).ok2 k ∧ r = rowV (hkR c) k x ∧ Go.Ep.look h x = some ((hkR c).b2 k)
set_option maxRecDepth 100000 in
set_option maxHeartbeats 16000000 in
theorem read_B (s : ByteArray) (hs : s.size ≤ 4000) (f0 : (4000#64).slt (BitVec.ofNat 64 s.size) = false) :
    FI Try.prog C_u Try.f14 0 [.one (.str s)] [] (KR .t) := by
  repeat' (first
    | ((with_reducible apply Given.mk); intro h; (try (dsimp only [hkL] at h; subst h)); (try dsimp only [hkL] at h); (try (have hw : WR wn wg := h)); (try with_reducible have hk := le_sz hs q1.hk h); (try (have hm : 1 ≤ m ∧ m ≤ 2 := h)); (try simp only [f0, BitVec.reduceSLT, BitVec.reduceBNe, BitVec.reduceBEq, beq_self_eq_true, bne_self_eq_false, Bool.or_false, Bool.false_or, Bool.and_true, Bool.true_and, decide_true, Bool.true_eq_false, Bool.false_eq_true, Bool.not_true, Bool.not_false] at h))
    | ((conv => whnf); first
      | with_reducible apply Both.mk
      | ((with_reducible apply Each.mk); intro kk; (first | (obtain ⟨m, y, b⟩ : Nat × IT × Bool := kk) | (obtain ⟨wn, wg⟩ : Nat × (Nat → ByteArray) := kk) | skip))
      | ((fail_if_success (have _q := q1)); refine LoopP.mk (Option (Nat × IT) × BitVec 64 × Nat × Nat) (fun k => RD s k.1 k.2.2.1 k.2.2.2) ((fun k => Option.rec (motive := fun _ => S) (mkS (Try.f14).ntmps [(0, .one (.str s)), (5, .one (.raw (.slice none 0 0))), (6, .one (.b64 true k.2.1)), (7, iN k.2.2.1), (8, iN k.2.2.2)] []) (fun y => mkS (Try.f14).ntmps [(0, .one (.str s)), (5, .one (.rsl 52 y.1)), (6, .one (.b64 true k.2.1)), (7, iN k.2.2.1), (8, iN k.2.2.2)] [(52, .row 37 5 y.1 (inF y.2))]) k.1)) (fun k => s.size + 1 - k.2.2.2) ⟨(none, 1#64, 0, 0), ⟨Nat.zero_le _, Nat.le_refl _, trivial⟩, ⟨?_, ?_, ?_, ?_, ?_⟩⟩ ?_; (focus ((repeat' ((conv => whnf); first | exact trivial | refine Both.mk (by first | with_reducible rfl | exact iN_succ _ | rfl) ?_)); done)); (focus ((repeat' ((conv => whnf); first | exact trivial | refine Both.mk (by first | with_reducible rfl | exact iN_succ _ | rfl) ?_)); done)); (focus exact rfl); (focus exact rfl); (focus exact rfl); (rintro ⟨_ | ⟨n, g⟩, at_, f, k⟩ q1 <;> dsimp only at q1 <;> dsimp only))))
  all_goals first
    | ((with_reducible apply Ob.mk); with_reducible assumption)
    | (with_reducible apply Ob.mk; kernel_rfl)
    | ((with_reducible apply Ob.mk); show s.size < 9223372036854775808; omega)
    | ((with_reducible apply Ob.mk); exact rd_sl hs q1.hf hk)
    | ((with_reducible apply Ob.mk); have h63 := lt63 (k := k) (n := s.size) (by omega) hk (by with_reducible assumption); exact ix_ofNat (by omega) h63)
    | ((with_reducible apply Ob.mk); have h63 := lt63 (k := k) (n := s.size) (by omega) hk (by with_reducible assumption); exact ⟨by omega, ix_ofNat (by omega) h63⟩)
    | ((with_reducible apply Ob.mk); show (exB s _ _).size ≤ 4000; rw [exB_size]; omega)
    | ((with_reducible apply Ob.mk); exact fun _ => rfl)
    | ((with_reducible apply Ob.mk); exact ⟨rfl, fun _ => rfl, fun _ => rfl⟩)
    | ((with_reducible apply Ob.mk); exact Nat.le_refl _)
    | ((with_reducible apply Ob.mk); exact ⟨hw.2.1, ⟨rfl, fun j => hw.2.2 _⟩, hw.1⟩)
    | ((with_reducible apply Ob.mk); have := hw.2.1; show wn < 9223372036854775808; omega)
    | ((with_reducible apply Ob.mk); have := hm.2; first | (show 0 + m < 65536; omega) | (show m < 9223372036854775808; omega) | (show 0 + m < 9223372036854775808; omega))
    | ((with_reducible apply Ob.mk); have hn64 : n ≤ 64 := q1.hq.2; first | (show n < 9223372036854775808; omega) | (show n + 0 < 65536; omega) | (have := hm.2; first | (show n + m < 65536; omega) | (show n + m < 9223372036854775808; omega)))
    | ((with_reducible apply Ob.mk); decide)
    | ((conv => whnf); exact .inl ⟨(_, _), trivial, rfl⟩)
    | ((conv => whnf); exact .inr ⟨(n, g), _, q1.hq, rfl, rfl⟩)
    | ((conv => whnf); refine ⟨(none, at_, f, k + 1), ⟨by show k + 1 ≤ s.size + 1; omega, by have := q1.hf; show f ≤ k + 1; omega, trivial⟩, (by show s.size + 1 - (k + 1) < s.size + 1 - k; omega), ⟨?_, ?_, ?_, ?_, ?_⟩⟩; (focus ((repeat' ((conv => whnf); first | exact trivial | refine Both.mk (by first | with_reducible rfl | exact iN_succ _ | rfl) ?_)); done)); (focus ((repeat' ((conv => whnf); first | exact trivial | refine Both.mk (by first | with_reducible rfl | exact iN_succ _ | rfl) ?_)); done)); (focus exact rfl); (focus exact rfl); (focus exact rfl))
    | ((conv => whnf); refine ⟨(none, at_ + 1#64, k + 1, k + 1), ⟨by show k + 1 ≤ s.size + 1; omega, Nat.le_refl _, trivial⟩, (by show s.size + 1 - (k + 1) < s.size + 1 - k; omega), ⟨?_, ?_, ?_, ?_, ?_⟩⟩; (focus ((repeat' ((conv => whnf); first | exact trivial | refine Both.mk (by first | with_reducible rfl | exact iN_succ _ | rfl) ?_)); done)); (focus ((repeat' ((conv => whnf); first | exact trivial | refine Both.mk (by first | with_reducible rfl | exact iN_succ _ | rfl) ?_)); done)); (focus exact rfl); (focus exact rfl); (focus exact rfl))
    | ((conv => whnf); refine ⟨(some (n, g), at_, f, k + 1), ⟨by show k + 1 ≤ s.size + 1; omega, by have := q1.hf; show f ≤ k + 1; omega, q1.hq⟩, (by show s.size + 1 - (k + 1) < s.size + 1 - k; omega), ⟨?_, ?_, ?_, ?_, ?_⟩⟩; (focus ((repeat' ((conv => whnf); first | exact trivial | refine Both.mk (by first | with_reducible rfl | exact iN_succ _ | rfl) ?_)); done)); (focus ((repeat' ((conv => whnf); first | exact trivial | refine Both.mk (by first | with_reducible rfl | exact iN_succ _ | rfl) ?_)); done)); (focus exact rfl); (focus exact rfl); (focus exact rfl))
    | ((conv => whnf); refine ⟨(some (n, g), at_ + 1#64, k + 1, k + 1), ⟨by show k + 1 ≤ s.size + 1; omega, Nat.le_refl _, q1.hq⟩, (by show s.size + 1 - (k + 1) < s.size + 1 - k; omega), ⟨?_, ?_, ?_, ?_, ?_⟩⟩; (focus ((repeat' ((conv => whnf); first | exact trivial | refine Both.mk (by first | with_reducible rfl | exact iN_succ _ | rfl) ?_)); done)); (focus ((repeat' ((conv => whnf); first | exact trivial | refine Both.mk (by first | with_reducible rfl | exact iN_succ _ | rfl) ?_)); done)); (focus exact rfl); (focus exact rfl); (focus exact rfl))
    | ((conv => whnf); refine ⟨(some (m, y), at_ + 1#64, k + 1, k + 1), ⟨by show k + 1 ≤ s.size + 1; omega, Nat.le_refl _, ⟨hm.1, by have := hm.2; show m ≤ 64; omega⟩⟩, (by show s.size + 1 - (k + 1) < s.size + 1 - k; omega), ⟨?_, ?_, ?_, ?_, ?_⟩⟩; (focus ((repeat' ((conv => whnf); first | exact trivial | refine Both.mk (by first | with_reducible rfl | exact iN_succ _ | rfl) ?_)); done)); (focus ((repeat' ((conv => whnf); first | exact trivial | refine Both.mk (by first | with_reducible rfl | exact iN_succ _ | rfl) ?_)); done)); (focus exact rfl); (focus exact rfl); (focus exact rfl))
    | ((conv => whnf); refine ⟨(some (n + m, fun j => if n ≤ j then y (j - n) else g j), at_ + 1#64, k + 1, k + 1), ⟨by show k + 1 ≤ s.size + 1; omega, Nat.le_refl _, ⟨by have := hm.1; show 1 ≤ n + m; omega, by have h6 := le64 (n := n + m) (by have hn64 : n ≤ 64 := q1.hq.2; have := hm.2; omega) (by with_reducible assumption); exact h6⟩⟩, (by show s.size + 1 - (k + 1) < s.size + 1 - k; omega), ⟨?_, ?_, ?_, ?_, ?_⟩⟩; (focus ((repeat' ((conv => whnf); first | exact trivial | refine Both.mk (by first | with_reducible rfl | exact iN_succ _ | exact congrArg (Blk.row 37 5 (n + m)) (joinF_in2 n g y) | rfl) ?_)); done)); (focus ((repeat' ((conv => whnf); first | exact trivial | refine Both.mk (by first | with_reducible rfl | exact iN_succ _ | exact congrArg (Blk.row 37 5 (n + m)) (joinF_in2 n g y) | rfl) ?_)); done)); (focus exact rfl); (focus exact rfl); (focus exact rfl))
    | (with_reducible apply Ob.mk; skip)
    | ((conv => whnf); skip)
set_option maxRecDepth 100000 in
set_option maxHeartbeats 16000000 in
theorem read_A (s : ByteArray) (hs : s.size < 9223372036854775808) (f0 : (4000#64).slt (BitVec.ofNat 64 s.size) = true) :
    FI Try.prog C_u Try.f14 0 [.one (.str s)] [] (KR .t) := by
  repeat' (first
    | ((with_reducible apply Given.mk); intro h; (try simp only [f0, BitVec.reduceBNe, BitVec.reduceBEq, beq_self_eq_true, bne_self_eq_false, Bool.or_false, Bool.false_or, Bool.and_true, Bool.true_and, decide_true, Bool.true_eq_false, Bool.false_eq_true, Bool.not_true, Bool.not_false] at h))
    | ((conv => whnf); first
      | with_reducible apply Both.mk
      | ((with_reducible apply Each.mk); intro kk)
      | (refine LoopP.times 1 ?_; fail)))
  all_goals first
    | ((with_reducible apply Ob.mk); with_reducible assumption)
    | (with_reducible apply Ob.mk; kernel_rfl)
    | ((with_reducible apply Ob.mk); exact hs)
    | ((conv => whnf); exact .inl ⟨(_, _), trivial, rfl⟩)
    | (with_reducible apply Ob.mk; skip)
    | ((conv => whnf); skip)
def h_read : SpHK
  | [.one (.str s)] => some (hkR (Cond.p (s.size < 9223372036854775808)))
  | _ => none
set_option maxRecDepth 100000 in
theorem e_read : EntryHK Try.prog anyWorld 14 h_read := by
  refine .of_FI CI_u (by kernel_rfl) Try.func14 (by kernel_rfl) (by kernel_rfl) (fun args a h hc => ?_)
  unfold h_read at h
  split at h
  · rename_i s
    cases h
    refine ⟨rfl, fun _ => rfl, fun _ => rfl, fun _ => ⟨rfl, rfl⟩, ?_⟩
    have hs : s.size < 9223372036854775808 := hc
    have g0 := slt_nat (a := 4000) (b := s.size) (by decide) hs
    by_cases h4 : 4000 < s.size
    · exact read_A s hs (g0.trans (decide_eq_true h4))
    · exact read_B s (by omega) (g0.trans (decide_eq_false h4))
  · cases h
end Go.Proofs.Ytdaioplfgbgggaa
/-
  Chapter 04: ProgsText, as the evaluator leaves it. Conditions: as typed.
-/
namespace Go.Proofs.Ytdaioplfgbgggaa
open Go.Ep Go.RowKit
set_option linter.unusedVariables false
set_option linter.unusedSimpArgs false
noncomputable abbrev ms_v : List (Nat × SpM) := [(12, spS 5 sq_chk), (11, spS 5 sq_chk)]
noncomputable abbrev C_v : Table := withHK (tabM noData tb_p ms_v) [(14, h_read)]
theorem CI_v : CSound Try.prog anyWorld C_v := (((CSound.startM C_p).consM e_Check).consM e_RefCheck).withHK (.cons e_read .nil)
theorem not_same {α : Type} [BEq α] [LawfulBEq α] {x : α} (h : (x == x) = false) : False := by simp at h
set_option maxRecDepth 100000 in
set_option maxHeartbeats 16000000 in
theorem ProgsText_main (s : ByteArray) (m : BitVec 64) (hs : s.size < 9223372036854775808) :
    FI Try.prog C_v Try.f4 1 [.one (.str s), .one (.b64 true m)] [] (fun r _ => r = .one (.bool true)) := by
  repeat' (first
    | ((with_reducible apply Given.mk); intro h; (try (have hk : 1 ≤ n ∧ n ≤ 64 := h)); (try ((with_reducible have h := not_same h); exact h.elim)); (try simp only [BitVec.reduceBNe, BitVec.reduceBEq, beq_self_eq_true, bne_self_eq_false, Bool.or_false, Bool.false_or, Bool.and_true, Bool.true_and, decide_true, Bool.true_eq_false, Bool.false_eq_true, Bool.not_true, Bool.not_false] at h))
    | ((conv => whnf); first
      | with_reducible apply Both.mk
      | ((with_reducible apply Each.mk); intro kk; (first | (obtain ⟨n, g⟩ : Nat × IT := kk) | skip))
      | (refine LoopP.times 1 ?_; fail)))
  all_goals first
    | ((with_reducible apply Ob.mk); with_reducible assumption)
    | (with_reducible apply Ob.mk; kernel_rfl)
    | ((with_reducible apply Ob.mk); exact hs)
    | ((with_reducible apply Ob.mk); exact ⟨Nat.le_refl _, Nat.le_trans hk.2 (by decide), .inr rfl⟩)
    | ((with_reducible apply Ob.mk); exact ⟨by decide, .inl rfl⟩)
    | ((with_reducible apply Ob.mk); exact ⟨Nat.le_refl _, by decide, .inl rfl⟩)
    | ((with_reducible apply Ob.mk); exact fun _ => rfl)
    | ((conv => whnf); exact rfl)
    | (with_reducible apply Ob.mk; skip)
    | ((conv => whnf); skip)
end Go.Proofs.Ytdaioplfgbgggaa
/-
  The walk of the law ProgsText, out of what the evaluator leaves of it. Conditions: the arguments fit their kinds.
-/
namespace Go.Proofs.Ytdaioplfgbgggaa
open Go.Ep Go.RowKit
set_option linter.unusedVariables false
set_option maxRecDepth 100000 in
theorem ProgsText_walk (a0 : ByteArray) (a1 : Int) (w : World) (w0 : a0.size ≤ maxLen) (w1 : (Lit.int .i64 a1).wf = true) :
    Calls Try.prog 4 #[.string a0, .int .i64 a1] w fun e w' => e = .returned (.bool true) ∧ Below w.heap.size w w' := by
  obtain ⟨m, rfl⟩ := vI_of .i64 a1 w1
  exact law_of_FI0 CI_v (by kernel_rfl) Try.func4 (ProgsText_main a0 m (Nat.lt_of_le_of_lt w0 (by decide))) rfl trivial ⟨fun _ => rfl, fun _ => rfl, trivial⟩
end Go.Proofs.Ytdaioplfgbgggaa
