/-
  Chapter 11: the document's first, for some opcodes. Conditions: as typed.
-/
import Derived.Test.YtppankimieopiaaDoorDsa
namespace Go.Proofs.YtppankimieopiaaDoor
open Go.Ep Go.RowKit
set_option linter.unusedVariables false
set_option linter.unusedSimpArgs false
set_option maxRecDepth 100000 in
set_option maxHeartbeats 16000000 in
theorem w_firb (D2 : VData) (m : Nat → Nat) (t : ByteArray) (i : BitVec 64) (k al cc sz : BitVec 64) (w sh : Bool) (d s : BitVec 64) (dp rl : BitVec 32) (im : BitVec 64) (half : Bool) (ht : t.size < 9223372036854775808) (h0 : i.toNat < 5) (r0 : 100 ≤ (atB t i).toNat) (r1 : (atB t i).toNat < 150) (hx : k = 0#64 ∧ al = 0#64 ∧ cc = 0#64 ∧ sz = 0#64 ∧ sh = false ∧ d = 0#64 ∧ s = 0#64 ∧ dp = 0#32 ∧ rl = 0#32 ∧ im = 0#64) : F Tryd.prog (tab (DN m D2) (tb_sec m)) Tryd.f67 [.one (.str t), .one (.b64 true i), .agg [.b64 true k, .b64 true al, .b64 true cc, .b64 true sz, .bool w, .bool sh, .b64 true d, .b64 true s, .b32 true dp, .b32 true rl, .b64 true im], .one (.bool half)] (fun r => r = .agg (LX (wid8 (firF t i ⟨k, al, cc, sz, w, sh, d, s, dp, rl, im⟩ half)))) := by
  obtain ⟨rfl, rfl, rfl, rfl, rfl, rfl, rfl, rfl, rfl, rfl⟩ := hx
  have hb : (atB t i).toNat < 256 := atB_lt t i
  have q137 := o_eq (n := 137) hb (by decide)
  have q133 := o_eq (n := 133) hb (by decide)
  have q129 := o_eq (n := 129) hb (by decide)
  have q199 := o_eq (n := 199) hb (by decide)
  have q247 := o_eq (n := 247) hb (by decide)
  have q193 := o_eq (n := 193) hb (by decide)
  have q211 := o_eq (n := 211) hb (by decide)
  have q139 := o_eq (n := 139) hb (by decide)
  have q136 := o_eq (n := 136) hb (by decide)
  have q235 := o_eq (n := 235) hb (by decide)
  have q233 := o_eq (n := 233) hb (by decide)
  have q195 := o_eq (n := 195) hb (by decide)
  have q232 := o_eq (n := 232) hb (by decide)
  have l64 := o_lt (n := 64) hb (by decide)
  have l192 := o_lt (n := 192) hb (by decide)
  have l128 := o_lt (n := 128) hb (by decide)
  have l88 := o_lt (n := 88) hb (by decide)
  have l96 := o_lt (n := 96) hb (by decide)
  have g184 := o_ge (n := 184) hb (by decide)
  have g112 := o_ge (n := 112) hb (by decide)
  have g80 := o_ge (n := 80) hb (by decide)
  have g88 := o_ge (n := 88) hb (by decide)
  generalize hN : (atB t i).toNat = N at hb r0 r1 q137 q133 q129 q199 q247 q193 q211 q139 q136 q235 q233 q195 q232 l64 l192 l128 l88 l96 g184 g112 g80 g88
  repeat' ((conv => whnf); first
    | with_reducible apply Both.mk
    | (with_reducible apply Given.mk; intro h; (first | exact absurd h (by decide) | ((have h' := h); (try simp only [q137, q133, q129, q199, q247, q193, q211, q139, q136, q235, q233, q195, q232, l64, l192, l128, l88, l96, g184, g112, g80, g88, decide_eq_true_eq, decide_eq_false_iff_not] at h'); (try (exfalso; clear hN; omega))))))
  all_goals first
    | ((conv => whnf); refine ⟨?_⟩; clear hN q137 q133 q129 q199 q247 q193 q211 q139 q136 q235 q233 q195 q232 l64 l192 l128 l88 l96 g184 g112 g80 g88; simp only [wid8, firF, mdD, LX, *, if_true, if_false, Bool.and_true, Bool.and_false, Bool.true_and, Bool.false_and, Bool.or_true, Bool.or_false, Bool.true_or, Bool.false_or, Bool.or_self, Bool.and_self, Bool.false_eq_true]; done)
    | ((conv => whnf); refine ⟨?_⟩; clear hN q137 q133 q129 q199 q247 q193 q211 q139 q136 q235 q233 q195 q232 l64 l192 l128 l88 l96 g184 g112 g80 g88; simp_all only [wid8, firF, mdD, LX, if_true, if_false, Bool.and_true, Bool.and_false, Bool.true_and, Bool.false_and, Bool.or_true, Bool.or_false, Bool.true_or, Bool.false_or, Bool.or_self, Bool.and_self, Bool.false_eq_true]; done)
    | ((with_reducible apply Ob.mk); exact ⟨ht, sm_0 (by omega)⟩)
    | ((with_reducible apply Ob.mk); exact ⟨ht, sm_add (by omega) (by decide)⟩)
    | ((with_reducible apply Ob.mk); exact ⟨ht, Nat.lt_of_lt_of_le (sm_n (n := 5) (k := 3) h0 (by decide) (by decide) (by decide)) (by decide)⟩)
    | ((with_reducible apply Ob.mk); exact ⟨ht, sm_n (n := 8) (k := 2) (sm_n (n := 5) (k := 3) h0 (by decide) (by decide) (by decide)) (by decide) (by decide) (by decide)⟩)
    | (with_reducible apply Ob.mk; kernel_rfl)
    | (with_reducible apply Ob.mk; decide)
    | ((conv => whnf); skip)
end Go.Proofs.YtppankimieopiaaDoor
