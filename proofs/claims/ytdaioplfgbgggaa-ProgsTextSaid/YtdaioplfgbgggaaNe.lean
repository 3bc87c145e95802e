/-
  Chapter 04: what both Encode's answer; the tables of ProgsBytes and ProgsBack. Conditions: as typed.
-/
import Derived.Test.YtdaioplfgbgggaaNn
import Derived.Test.YtdaioplfgbgggaaInD
import Derived.Test.YtdaioplfgbgggaaPr
import Derived.Test.YtdaioplfgbgggaaZx
namespace Go.Proofs.Ytdaioplfgbgggaa
open Go.Ep Go.RowKit
set_option linter.unusedVariables false
set_option linter.unusedSimpArgs false
def sqE (len : Nat) (g : Nat → List PL) (rest : List AV) : Option (Cond × AV) := match rest with
  | [] => some (Cond.p (len ≤ 8000 ∧ (len = 0 ∨ g = inF (inOf g))), .one (.str (encB (inOf g) len)))
  | _ => none
abbrev tb_b : List (Nat × Sp) := (10, spT) :: tb_firewallref02_Encode
theorem C_b : CSound Try.prog anyWorld (tab noData tb_b) := C_firewallref02_Encode.cons e_sound
theorem ltk {n i : Nat} (hn : n ≤ 8000) (h64 : i ≤ n) (hi : (BitVec.ofNat 64 i).slt (BitVec.ofNat 64 n) = true) : i < n := lt_of_slt (by omega) (by omega) hi
theorem gek {n i : Nat} (hn : n ≤ 8000) (h64 : i ≤ n) (hi : (BitVec.ofNat 64 i).slt (BitVec.ofNat 64 n) = false) : n = i := Nat.le_antisymm (ge_of_slt (by omega) (by omega) hi) h64
theorem ixk {n i : Nat} (hn : n ≤ 8000) (h64 : i ≤ n) (hi : (BitVec.ofNat 64 i).slt (BitVec.ofNat 64 n) = true) : 0 ≤ (BitVec.ofNat 64 i).toInt ∧ (BitVec.ofNat 64 i).toNat < n := ix_ofNat (by omega) (ltk hn h64 hi)
theorem natk {n i : Nat} (hn : n ≤ 8000) (h64 : i ≤ n) : (BitVec.ofNat 64 i).toNat = i := nat_ofNat (by omega)
theorem nil_str (x : IT) : (⟨⟨[]⟩⟩ : ByteArray) = encB x 0 := rfl
theorem eight_eq (x : IT) {k k' : Nat} (h : k' = k) : (fun j => [PL.b8 false (byteAt (iEnc (x k').o (x k').d (x k').s (x k').f (x k').i) j)]) = eightF (x k) := by subst h; rfl
theorem encF_step (x : IT) {k k' : Nat} (h1 : 1 ≤ k) (h : k' = k) : joinF (8 * k) (encF x k) (fun j => [PL.b8 false (byteAt (iEnc (x k').o (x k').d (x k').s (x k').f (x k').i) j)]) = encF x (k + 1) := by subst h; exact encF_go x h1
theorem row_step (x : IT) {k k' m : Nat} {T : TypeId} (h1 : 1 ≤ k) (h : k' = k) (hm : m = 8) : Blk.row T 1 (8 * k + m) (joinF (8 * k) (encF x k) (fun j => [PL.b8 false (byteAt (iEnc (x k').o (x k').d (x k').s (x k').f (x k').i) j)])) = Blk.row T 1 (8 * (k + 1)) (encF x (k + 1)) := by
  rw [encF_step x h1 h, hm]; rfl
set_option maxRecDepth 100000 in
set_option maxHeartbeats 8000000 in
theorem RefEnc_walk (T : TypeId) (len cap : Nat) (hl : len ≤ 8000) (x : IT) :
    FI Try.prog (tab noData tb_b) Try.f21 1 [.one (.slc 0 0 len cap)] [(0, .ro T [.seg 5 len (inF x)])] (fun r _ => r = .one (.str (encB x len))) := by
  repeat' (first
    | (with_reducible apply Given.mk; intro h; (try ((fail_if_success (have _q := one)); exact absurd h (by decide))); (try (rw [enc_size] at h; exact absurd h (by decide))))
    | ((conv => whnf); first
      | with_reducible apply Both.mk
      | (refine LoopP.mk (Nat) (fun k => k ≤ len) ((fun k => mkS (Try.f21).ntmps [(0, .one (.slc 0 0 len cap)), (3, .one (.str (encB x k))), (4, iN k)] [(0, .ro T [.seg 5 len (inF x)])])) (fun k => len - k) ⟨0, Nat.zero_le _, ⟨?_, ?_, ?_, ?_, ?_⟩⟩ ?_; (focus ((repeat' ((conv => whnf); first | exact trivial | refine Both.mk (by first | with_reducible rfl | exact iN_succ _ | rfl) ?_)); done)); (focus ((repeat' ((conv => whnf); first | exact trivial | refine Both.mk (by first | with_reducible rfl | exact iN_succ _ | rfl) ?_)); done)); (focus exact rfl); (focus exact rfl); (focus exact rfl); (rintro k one; dsimp only))))
  all_goals first
    | (with_reducible apply Ob.mk; kernel_rfl)
    | ((with_reducible apply Ob.mk); show len < 9223372036854775808; omega)
    | ((with_reducible apply Ob.mk); exact ixk hl one (by with_reducible assumption))
    | ((with_reducible apply Ob.mk); exact (ixk hl one (by with_reducible assumption)).2)
    | ((with_reducible apply Ob.mk); have e := encB_size x k; rw [e]; show 8 * k + 8 < 9223372036854775808; (have := Nat.le_trans one hl); omega)
    | ((with_reducible apply Ob.mk); have e : len = k := gek hl one (by with_reducible assumption); subst e; rfl)
    | ((conv => whnf); have e : len = k := gek hl one (by with_reducible assumption); subst e; rfl)
    | ((conv => whnf); refine ⟨k + 1, ltk hl one (by with_reducible assumption), (by have := ltk hl one (by with_reducible assumption); show len - (k + 1) < len - k; omega), ⟨?_, ?_, ?_, ?_, ?_⟩⟩; (focus ((repeat' ((conv => whnf); first | exact trivial | refine Both.mk (by first | with_reducible rfl | exact iN_succ _ | (rw [natk hl one]; rfl) | rfl) ?_)); done)); (focus ((repeat' ((conv => whnf); first | exact trivial | refine Both.mk (by first | with_reducible rfl | exact iN_succ _ | (rw [natk hl one]; rfl) | rfl) ?_)); done)); (focus exact rfl); (focus exact rfl); (focus exact rfl))
    | (with_reducible apply Ob.mk; skip)
    | ((conv => whnf); skip)
set_option maxRecDepth 100000 in
set_option maxHeartbeats 8000000 in
theorem ProgEnc_walk (T : TypeId) (len cap : Nat) (hl : len ≤ 8000) (x : IT) :
    FI Try.prog (tab noData tb_b) Try.f20 1 [.one (.slc 0 0 len cap)] [(0, .ro T [.seg 5 len (inF x)])] (fun r _ => r = .one (.str (encB x len))) := by
  repeat' (first
    | (with_reducible apply Given.mk; intro h; (try ((fail_if_success (have _q := one)); exact absurd h (by decide))); (try (rw [enc_size] at h; exact absurd h (by decide))))
    | ((conv => whnf); first
      | with_reducible apply Both.mk
      | (refine LoopP.mk (Option Nat) (fun q => match q with | none => True | some k => 1 ≤ k ∧ k ≤ len) ((fun q => Option.rec (mkS (Try.f20).ntmps [(0, .one (.slc 0 0 len cap)), (3, .one (.raw (.slice none 0 0))), (6, .one (.slc 0 0 len cap)), (7, .one (.b64 true (BitVec.ofNat 64 len))), (8, .one (.b64 true 0#64))] [(0, .ro T [.seg 5 len (inF x)])]) (fun k => mkS (Try.f20).ntmps [(0, .one (.slc 0 0 len cap)), (3, .one (.rsl 16 (8 * k))), (6, .one (.slc 0 0 len cap)), (7, .one (.b64 true (BitVec.ofNat 64 len))), (8, iN k)] [(16, .row 5 1 (8 * k) (encF x k)), (0, .ro T [.seg 5 len (inF x)])]) q)) (fun q => Option.rec (len + 1) (fun k => len - k) q) ⟨none, trivial, ⟨?_, ?_, ?_, ?_, ?_⟩⟩ ?_; (focus ((repeat' ((conv => whnf); first | exact trivial | refine Both.mk (by first | with_reducible rfl | exact iN_succ _ | rfl) ?_)); done)); (focus ((repeat' ((conv => whnf); first | exact trivial | refine Both.mk (by first | with_reducible rfl | exact iN_succ _ | rfl) ?_)); done)); (focus exact rfl); (focus exact rfl); (focus exact rfl); (rintro (_ | k) one <;> (try (replace one : 1 ≤ k ∧ k ≤ len := one; dsimp only))))))
  all_goals first
    | (with_reducible apply Ob.mk; kernel_rfl)
    | ((with_reducible apply Ob.mk); show len < 9223372036854775808; omega)
    | ((with_reducible apply Ob.mk); exact ixk hl one.2 (by with_reducible assumption))
    | ((with_reducible apply Ob.mk); exact (ixk hl one.2 (by with_reducible assumption)).2)
    | ((with_reducible apply Ob.mk); exact ixk hl (Nat.zero_le _) (by with_reducible assumption))
    | ((with_reducible apply Ob.mk); exact (ixk hl (Nat.zero_le _) (by with_reducible assumption)).2)
    | ((with_reducible apply Ob.mk); exact fun _ => rfl)
    | ((with_reducible apply Ob.mk); exact ⟨rfl, fun j => encF_len x k j, fun _ => rfl⟩)
    | ((with_reducible apply Ob.mk); exact (show 0 + 8 < 65536 by decide))
    | ((with_reducible apply Ob.mk); show 8 * k + 8 < 65536; (have := one.2); omega)
    | ((with_reducible apply Ob.mk); exact ⟨Nat.le_refl _, fun j _ => by obtain ⟨b, hb⟩ := encF_b8 x k j; rw [hb]; rfl⟩)
    | ((conv => whnf); have e : len = 0 := gek hl (Nat.zero_le _) (by with_reducible assumption); subst e; rfl)
    | ((conv => whnf); have e : len = k := gek hl one.2 (by with_reducible assumption); subst e; exact congrArg (fun v => AV.one (.str v)) (rowStr_enc x len))
    | ((conv => whnf); refine ⟨some 1, ⟨Nat.le_refl _, ltk hl (Nat.zero_le _) (by with_reducible assumption)⟩, (by show len - 1 < len + 1; omega), ⟨?_, ?_, ?_, ?_, ?_⟩⟩; (focus ((repeat' ((conv => whnf); first | exact trivial | refine Both.mk (by first | with_reducible rfl | exact iN_succ _ | rfl) ?_)); done)); (focus ((repeat' ((conv => whnf); first | exact trivial | refine Both.mk (by first | with_reducible rfl | exact iN_succ _ | rfl) ?_)); done)); (focus exact rfl); (focus exact rfl); (focus exact rfl))
    | ((conv => whnf); refine ⟨some (k + 1), ⟨Nat.succ_le_succ (Nat.zero_le _), ltk hl one.2 (by with_reducible assumption)⟩, (by have := ltk hl one.2 (by with_reducible assumption); show len - (k + 1) < len - k; omega), ⟨?_, ?_, ?_, ?_, ?_⟩⟩; (focus ((repeat' ((conv => whnf); first | exact trivial | refine Both.mk (by first | with_reducible rfl | exact iN_succ _ | exact row_step x one.1 (natk hl one.2) rfl | rfl) ?_)); done)); (focus ((repeat' ((conv => whnf); first | exact trivial | refine Both.mk (by first | with_reducible rfl | exact iN_succ _ | exact row_step x one.1 (natk hl one.2) rfl | rfl) ?_)); done)); (focus exact rfl); (focus exact rfl); (focus exact rfl))
    | (with_reducible apply Ob.mk; skip)
    | ((conv => whnf); skip)
set_option maxRecDepth 100000 in
set_option maxHeartbeats 8000000 in
theorem RefEnc_nil (T : TypeId) (cap : Nat) (l : L) (bs : List (Nat × Blk)) (g : Nat → List PL) (h : (l = .slc 0 0 0 cap ∧ bs = [(0, .ro T [.seg 5 0 g])]) ∨ ∃ ad, l = .raw (.slice ad 0 cap) ∧ bs = []) :
    FI Try.prog (tab noData tb_b) Try.f21 1 [.one l] bs (fun r _ => r = .one (.str ⟨⟨[]⟩⟩)) := by
  rcases h with ⟨rfl, rfl⟩ | ⟨ad, rfl, rfl⟩
  all_goals
    repeat' (first
      | (with_reducible apply Given.mk; intro h; (try exact absurd h (by decide)))
      | ((conv => whnf); first
        | with_reducible apply Both.mk
        | refine LoopP.times 1 ?_))
  all_goals first
    | (with_reducible apply Ob.mk; kernel_rfl)
    | (with_reducible apply Ob.mk; decide)
    | ((conv => whnf); exact rfl)
    | ((conv => whnf); skip)
set_option maxRecDepth 100000 in
theorem e_RefEnc : EntryM Try.prog anyWorld 21 (spS 5 sqE) := by
  refine .of_slice C_b (by kernel_rfl) Try.func21 (by kernel_rfl) (by kernel_rfl) (fun len g rest c v h hc => ?_) (fun rest c v h hc ad cap => ?_)
  · unfold sqE at h
    split at h
    · cases h
      obtain ⟨h1, h2⟩ := hc
      refine ⟨rfl, rfl, fun T cap => ?_⟩
      rcases h2 with rfl | h2
      · exact RefEnc_nil T cap _ _ g (.inl ⟨rfl, rfl⟩)
      · generalize inOf g = x at h2
        subst h2
        exact RefEnc_walk T len cap h1 x
    · cases h
  · unfold sqE at h
    split at h
    · cases h
      exact RefEnc_nil 0 cap _ _ (fun _ => []) (.inr ⟨ad, rfl, rfl⟩)
    · cases h
set_option maxRecDepth 100000 in
set_option maxHeartbeats 8000000 in
theorem ProgEnc_nil (T : TypeId) (cap : Nat) (l : L) (bs : List (Nat × Blk)) (g : Nat → List PL) (h : (l = .slc 0 0 0 cap ∧ bs = [(0, .ro T [.seg 5 0 g])]) ∨ ∃ ad, l = .raw (.slice ad 0 cap) ∧ bs = []) :
    FI Try.prog (tab noData tb_b) Try.f20 1 [.one l] bs (fun r _ => r = .one (.str ⟨⟨[]⟩⟩)) := by
  rcases h with ⟨rfl, rfl⟩ | ⟨ad, rfl, rfl⟩
  all_goals
    repeat' (first
      | (with_reducible apply Given.mk; intro h; (try exact absurd h (by decide)))
      | ((conv => whnf); first
        | with_reducible apply Both.mk
        | refine LoopP.times 1 ?_))
  all_goals first
    | (with_reducible apply Ob.mk; kernel_rfl)
    | (with_reducible apply Ob.mk; decide)
    | ((conv => whnf); exact rfl)
    | ((conv => whnf); skip)
set_option maxRecDepth 100000 in
theorem e_ProgEnc : EntryM Try.prog anyWorld 20 (spS 5 sqE) := by
  refine .of_slice C_b (by kernel_rfl) Try.func20 (by kernel_rfl) (by kernel_rfl) (fun len g rest c v h hc => ?_) (fun rest c v h hc ad cap => ?_)
  · unfold sqE at h
    split at h
    · cases h
      obtain ⟨h1, h2⟩ := hc
      refine ⟨rfl, rfl, fun T cap => ?_⟩
      rcases h2 with rfl | h2
      · exact ProgEnc_nil T cap _ _ g (.inl ⟨rfl, rfl⟩)
      · generalize inOf g = x at h2
        subst h2
        exact ProgEnc_walk T len cap h1 x
    · cases h
  · unfold sqE at h
    split at h
    · cases h
      exact ProgEnc_nil 0 cap _ _ (fun _ => []) (.inr ⟨ad, rfl, rfl⟩)
    · cases h
abbrev ms_b : List (Nat × SpM) := [(20, spS 5 sqE), (21, spS 5 sqE)]
theorem CM_b : CSound Try.prog anyWorld (tabM noData tb_b ms_b) := ((CSound.startM C_b).consM e_RefEnc).consM e_ProgEnc
noncomputable abbrev FSb : List (Nat × Func) := [(18, Try.f18), (19, Try.f19), (13, Try.f13)]
theorem fs_b : FsOK Try.prog FSb := FsOK.cons Try.func18 (by kernel_rfl) (by kernel_rfl) (FsOK.cons Try.func19 (by kernel_rfl) (by kernel_rfl) (FsOK.cons Try.func13 (by kernel_rfl) (by kernel_rfl) FsOK.nil))
theorem CI_b : CSound Try.prog anyWorld (tabMI Try.prog noData tb_b ms_b FSb 3) := CSound.tabMI CM_b (by kernel_rfl) fs_b 3
end Go.Proofs.Ytdaioplfgbgggaa
