/-
  Chapter 11: what the reader of Decode does: contracts. Conditions: as typed.
-/
import Derived.Test.YtppankimieopiaaDoorCm
import Derived.Test.YtppankimieopiaaDoorPs
namespace Go.Proofs.YtppankimieopiaaDoor
open Go.Ep Go.RowKit
set_option linter.unusedVariables false
set_option linter.unusedSimpArgs false
/-- The number of eight bytes; what is not there is 0. -/
def numB (s : ByteArray) : BitVec 64 := 0#64 ||| (byteAt s 0).setWidth 64 <<< 0 ||| (byteAt s 1).setWidth 64 <<< 8 ||| (byteAt s 2).setWidth 64 <<< 16 ||| (byteAt s 3).setWidth 64 <<< 24 ||| (byteAt s 4).setWidth 64 <<< 32 ||| (byteAt s 5).setWidth 64 <<< 40 ||| (byteAt s 6).setWidth 64 <<< 48 ||| (byteAt s 7).setWidth 64 <<< 56
theorem z8 (k : Nat) : (BitVec.setWidth 64 (0#8)) <<< k = 0#64 := by simp
theorem list8 (l : List UInt8) (h : l.length ≤ 8) : l = [] ∨ (∃ a, l = [a]) ∨ (∃ a b, l = [a, b]) ∨ (∃ a b c, l = [a, b, c]) ∨ (∃ a b c d, l = [a, b, c, d]) ∨ (∃ a b c d e, l = [a, b, c, d, e]) ∨ (∃ a b c d e f, l = [a, b, c, d, e, f]) ∨ (∃ a b c d e f g, l = [a, b, c, d, e, f, g]) ∨ (∃ a b c d e f g i, l = [a, b, c, d, e, f, g, i]) := by
  rcases l with _ | ⟨a, _ | ⟨b, _ | ⟨c, _ | ⟨d, _ | ⟨e, _ | ⟨f, _ | ⟨g, _ | ⟨i, _ | ⟨j, l⟩⟩⟩⟩⟩⟩⟩⟩⟩
  · exact .inl rfl
  · exact .inr (.inl ⟨_, rfl⟩)
  · exact .inr (.inr (.inl ⟨_, _, rfl⟩))
  · exact .inr (.inr (.inr (.inl ⟨_, _, _, rfl⟩)))
  · exact .inr (.inr (.inr (.inr (.inl ⟨_, _, _, _, rfl⟩))))
  · exact .inr (.inr (.inr (.inr (.inr (.inl ⟨_, _, _, _, _, rfl⟩)))))
  · exact .inr (.inr (.inr (.inr (.inr (.inr (.inl ⟨_, _, _, _, _, _, rfl⟩))))))
  · exact .inr (.inr (.inr (.inr (.inr (.inr (.inr (.inl ⟨_, _, _, _, _, _, _, rfl⟩)))))))
  · exact .inr (.inr (.inr (.inr (.inr (.inr (.inr (.inr ⟨_, _, _, _, _, _, _, _, rfl⟩)))))))
  · simp only [List.length_cons] at h; omega
theorem sz_mk (l : List UInt8) : (⟨⟨l⟩⟩ : ByteArray).size = l.length := rfl
def sp_Num : Sp
  | [.one (.str s)] => some (Cond.p (s.size ≤ 8), .one (.b64 false (numB s)))
  | _ => none
set_option maxRecDepth 100000 in
set_option maxHeartbeats 4000000 in
theorem e_Num (G2 : World → Prop) (D2 : VData) (k2 : DataOK Tryd.prog G2 D2) (m : Nat → Nat) : EntryOK Tryd.prog (GN m G2) 96 sp_Num := by
  refine .of_F (C_Encode G2 D2 k2 m) (by kernel_rfl) Tryd.func96 (by kernel_rfl) (by kernel_rfl) (fun args c v h hc => ?_)
  unfold sp_Num at h
  split at h
  · rename_i s; cases h
    refine ⟨rfl, rfl, ?_⟩
    obtain ⟨⟨l⟩⟩ := s
    rcases list8 l hc with rfl | ⟨a, rfl⟩ | ⟨a, b, rfl⟩ | ⟨a, b, c, rfl⟩ | ⟨a, b, c, d, rfl⟩ | ⟨a, b, c, d, e, rfl⟩ | ⟨a, b, c, d, e, f, rfl⟩ | ⟨a, b, c, d, e, f, g, rfl⟩ | ⟨a, b, c, d, e, f, g, i, rfl⟩
    all_goals
      repeat' (first
        | (with_reducible apply Given.mk; intro h; (try simp only [sz_mk, List.length_cons, List.length_nil] at h); (try exact absurd h (by decide)))
        | ((conv => whnf); first | with_reducible apply Both.mk | refine LoopP.times 10 ?_))
      all_goals first
        | (with_reducible apply Ob.mk; kernel_rfl)
        | (with_reducible apply Ob.mk; decide)
        | ((with_reducible apply Ob.mk); simp only [sz_mk, List.length_cons, List.length_nil]; decide)
        | ((conv => whnf); refine ⟨?_⟩; simp only [numB, byteAt, nthB, z8, BitVec.or_zero]; first | done | rfl)
        | ((conv => whnf); skip)
  · cases h
abbrev tb_Num (m : Nat → Nat) : List (Nat × Sp) := (96, sp_Num) :: tb_Encode m
theorem C_Num (G2 : World → Prop) (D2 : VData) (k2 : DataOK Tryd.prog G2 D2) (m : Nat → Nat) : CSound Tryd.prog (GN m G2) (tab (DN m D2) (tb_Num m)) := (C_Encode G2 D2 k2 m).cons (e_Num G2 D2 k2 m)
/-- Does a text begin with another one? -/
def pre (s p : ByteArray) : Bool := decide (exB s 0 p.size = p)
theorem exB_size (s : ByteArray) (l h : Nat) (hl : l ≤ h) (hs : h ≤ s.size) : (exB s l h).size = h - l := by
  show (takeU (dropU s.data.toList l) (h - l)).length = _
  rw [takeU_eq, dropU_eq, List.length_take, List.length_drop]
  have : s.data.toList.length = s.size := rfl
  omega
theorem pre_size {s p : ByteArray} (h : pre s p = true) : p.size ≤ s.size := by
  have h : exB s 0 p.size = p := of_decide_eq_true h
  have e : (exB s 0 p.size).size = p.size := by rw [h]
  have e2 : (exB s 0 p.size).size = (takeU (dropU s.data.toList 0) (p.size - 0)).length := rfl
  rw [takeU_eq, dropU_eq, List.length_take, List.length_drop] at e2
  have : s.data.toList.length = s.size := rfl
  omega
theorem sle_le {a b : Nat} (ha : a < 9223372036854775808) (hb : b < 9223372036854775808) : (BitVec.ofNat 64 a).sle (BitVec.ofNat 64 b) = decide (a ≤ b) := by
  rw [BitVec.sle_eq_decide, toInt_ofNat ha, toInt_ofNat hb, Bool.eq_iff_iff]
  simp only [decide_eq_true_eq]
  omega
theorem nat_of {a : Nat} (ha : a < 9223372036854775808) : (BitVec.ofNat 64 a).toNat = a := by rw [BitVec.toNat_ofNat, Nat.mod_eq_of_lt (by omega)]
theorem ix_of {a b : Nat} (ha : a < 9223372036854775808) (hb : a ≤ b) : 0 ≤ (BitVec.ofNat 64 a).toInt ∧ (BitVec.ofNat 64 a).toNat ≤ b := by
  rw [toInt_ofNat ha, nat_of ha]; omega
def sp_HasPrefix : Sp
  | [.one (.str s), .one (.str p)] => some (Cond.p (s.size < 9223372036854775808 ∧ p.size < 9223372036854775808), .one (.bool (pre s p)))
  | _ => none
set_option maxRecDepth 100000 in
set_option maxHeartbeats 4000000 in
theorem e_HasP (G2 : World → Prop) (D2 : VData) (k2 : DataOK Tryd.prog G2 D2) (m : Nat → Nat) : EntryOK Tryd.prog (GN m G2) 88 sp_HasPrefix := by
  refine .of_F (C_Num G2 D2 k2 m) (by kernel_rfl) Tryd.func88 (by kernel_rfl) (by kernel_rfl) (fun args c v h hc => ?_)
  unfold sp_HasPrefix at h
  split at h
  · rename_i s p; cases h
    refine ⟨rfl, rfl, ?_⟩
    obtain ⟨hs, hp⟩ := hc
    cases hle : (BitVec.ofNat 64 p.size).sle (BitVec.ofNat 64 s.size) with
    | false =>
      have hn : pre s p = false := by
        cases e : pre s p with
        | false => rfl
        | true => rw [sle_le hp hs, decide_eq_false_iff_not] at hle; exact absurd (pre_size e) hle
      rw [hn]
      repeat' (first
        | (with_reducible apply Given.mk; intro h; (try (rw [hle] at h; exact absurd h (by decide))))
        | ((conv => whnf); with_reducible apply Both.mk))
      all_goals first
        | (with_reducible apply Ob.mk; kernel_rfl)
        | ((with_reducible apply Ob.mk); first | exact hs | exact hp)
        | ((conv => whnf); exact ⟨rfl⟩)
        | ((conv => whnf); skip)
    | true =>
      have hle' : p.size ≤ s.size := by rw [sle_le hp hs, decide_eq_true_eq] at hle; exact hle
      repeat' (first
        | (with_reducible apply Given.mk; intro h; (try (rw [hle] at h; exact absurd h (by decide))))
        | ((conv => whnf); with_reducible apply Both.mk))
      all_goals first
        | (with_reducible apply Ob.mk; kernel_rfl)
        | ((with_reducible apply Ob.mk); first | exact hs | exact hp)
        | ((with_reducible apply Ob.mk); exact ix_of hp hle')
        | ((with_reducible apply Ob.mk); exact ⟨(ix_of hp hle').1, Nat.zero_le _, (ix_of hp hle').2⟩)
        | ((with_reducible apply Ob.mk); exact (ix_of hp hle').1)
        | ((with_reducible apply Ob.mk); exact ⟨Nat.zero_le _, (ix_of hp hle').2⟩)
        | ((conv => whnf); refine ⟨?_⟩; show AV.one (.bool (decide (exB s 0 (BitVec.ofNat 64 p.size).toNat = p))) = _; rw [nat_of hp]; rfl)
        | ((conv => whnf); skip)
  · cases h
abbrev tb_HasP (m : Nat → Nat) : List (Nat × Sp) := (88, sp_HasPrefix) :: tb_Num m
theorem C_HasP (G2 : World → Prop) (D2 : VData) (k2 : DataOK Tryd.prog G2 D2) (m : Nat → Nat) : CSound Tryd.prog (GN m G2) (tab (DN m D2) (tb_HasP m)) := (C_Num G2 D2 k2 m).cons (e_HasP G2 D2 k2 m)
set_option maxRecDepth 100000 in
set_option maxHeartbeats 4000000 in
theorem e_HasPrefix (G2 : World → Prop) (D2 : VData) (k2 : DataOK Tryd.prog G2 D2) (m : Nat → Nat) : EntryOK Tryd.prog (GN m G2) 64 sp_HasPrefix := by
  refine .of_F (C_HasP G2 D2 k2 m) (by kernel_rfl) Tryd.func64 (by kernel_rfl) (by kernel_rfl) (fun args c v h hc => ?_)
  unfold sp_HasPrefix at h
  split at h
  · rename_i s p; cases h
    refine ⟨rfl, rfl, ?_⟩
    obtain ⟨hs, hp⟩ := hc
    repeat' (first
      | (with_reducible apply Given.mk; intro h; (try exact absurd h (by decide)))
      | ((conv => whnf); with_reducible apply Both.mk))
    all_goals first
      | (with_reducible apply Ob.mk; kernel_rfl)
      | ((with_reducible apply Ob.mk); first | exact hs | exact hp)
      | ((with_reducible apply Ob.mk); exact ⟨hs, hp⟩)
      | ((conv => whnf); exact ⟨rfl⟩)
      | ((conv => whnf); skip)
  · cases h
abbrev tb_HasPrefix (m : Nat → Nat) : List (Nat × Sp) := (64, sp_HasPrefix) :: tb_HasP m
theorem C_HasPrefix (G2 : World → Prop) (D2 : VData) (k2 : DataOK Tryd.prog G2 D2) (m : Nat → Nat) : CSound Tryd.prog (GN m G2) (tab (DN m D2) (tb_HasPrefix m)) := (C_HasP G2 D2 k2 m).cons (e_HasPrefix G2 D2 k2 m)
def sp_CutPrefix : Sp
  | [.one (.str s), .one (.str p)] => some (Cond.p (s.size < 9223372036854775808 ∧ p.size < 9223372036854775808), .tup [(false, [.str (if pre s p then exB s p.size s.size else s)]), (false, [.bool (pre s p)])])
  | _ => none
set_option maxRecDepth 100000 in
set_option maxHeartbeats 4000000 in
theorem e_CutP (G2 : World → Prop) (D2 : VData) (k2 : DataOK Tryd.prog G2 D2) (m : Nat → Nat) : EntryOK Tryd.prog (GN m G2) 98 sp_CutPrefix := by
  refine .of_F (C_HasPrefix G2 D2 k2 m) (by kernel_rfl) Tryd.func98 (by kernel_rfl) (by kernel_rfl) (fun args c v h hc => ?_)
  unfold sp_CutPrefix at h
  split at h
  · rename_i s p; cases h
    refine ⟨rfl, rfl, ?_⟩
    obtain ⟨hs, hp⟩ := hc
    cases hq : pre s p with
    | false =>
      repeat' (first
        | (with_reducible apply Given.mk; intro h; (try (rw [hq] at h; exact absurd h (by decide))))
        | ((conv => whnf); with_reducible apply Both.mk))
      all_goals first
        | (with_reducible apply Ob.mk; kernel_rfl)
        | ((with_reducible apply Ob.mk); first | exact hs | exact hp)
        | ((with_reducible apply Ob.mk); exact ⟨hs, hp⟩)
        | ((conv => whnf); exact ⟨rfl⟩)
        | ((conv => whnf); skip)
    | true =>
      have hle' := pre_size hq
      repeat' (first
        | (with_reducible apply Given.mk; intro h; (try (rw [hq] at h; exact absurd h (by decide))))
        | ((conv => whnf); with_reducible apply Both.mk))
      all_goals first
        | (with_reducible apply Ob.mk; kernel_rfl)
        | ((with_reducible apply Ob.mk); first | exact hs | exact hp)
        | ((with_reducible apply Ob.mk); exact ⟨hs, hp⟩)
        | ((with_reducible apply Ob.mk); exact ⟨(ix_of hp hle').1, (ix_of hp hle').2, Nat.le_refl _⟩)
        | ((with_reducible apply Ob.mk); exact (ix_of hp hle').1)
        | ((with_reducible apply Ob.mk); exact ⟨(ix_of hp hle').2, Nat.le_refl _⟩)
        | ((conv => whnf); refine ⟨?_⟩; show AV.tup [(false, [.str (exB s (BitVec.ofNat 64 p.size).toNat s.size)]), (false, [.bool true])] = _; rw [nat_of hp]; rfl)
        | ((conv => whnf); skip)
  · cases h
abbrev tb_CutP (m : Nat → Nat) : List (Nat × Sp) := (98, sp_CutPrefix) :: tb_HasPrefix m
theorem C_CutP (G2 : World → Prop) (D2 : VData) (k2 : DataOK Tryd.prog G2 D2) (m : Nat → Nat) : CSound Tryd.prog (GN m G2) (tab (DN m D2) (tb_CutP m)) := (C_HasPrefix G2 D2 k2 m).cons (e_CutP G2 D2 k2 m)
set_option maxRecDepth 100000 in
set_option maxHeartbeats 4000000 in
theorem e_CutPrefix (G2 : World → Prop) (D2 : VData) (k2 : DataOK Tryd.prog G2 D2) (m : Nat → Nat) : EntryOK Tryd.prog (GN m G2) 95 sp_CutPrefix := by
  refine .of_F (C_CutP G2 D2 k2 m) (by kernel_rfl) Tryd.func95 (by kernel_rfl) (by kernel_rfl) (fun args c v h hc => ?_)
  unfold sp_CutPrefix at h
  split at h
  · rename_i s p; cases h
    refine ⟨rfl, rfl, ?_⟩
    obtain ⟨hs, hp⟩ := hc
    repeat' (first
      | (with_reducible apply Given.mk; intro h; (try exact absurd h (by decide)))
      | ((conv => whnf); with_reducible apply Both.mk))
    all_goals first
      | (with_reducible apply Ob.mk; kernel_rfl)
      | ((with_reducible apply Ob.mk); first | exact hs | exact hp)
      | ((with_reducible apply Ob.mk); exact ⟨hs, hp⟩)
      | ((conv => whnf); exact ⟨rfl⟩)
      | ((conv => whnf); skip)
  · cases h
abbrev tb_CutPrefix (m : Nat → Nat) : List (Nat × Sp) := (95, sp_CutPrefix) :: tb_CutP m
theorem C_CutPrefix (G2 : World → Prop) (D2 : VData) (k2 : DataOK Tryd.prog G2 D2) (m : Nat → Nat) : CSound Tryd.prog (GN m G2) (tab (DN m D2) (tb_CutPrefix m)) := (C_CutP G2 D2 k2 m).cons (e_CutPrefix G2 D2 k2 m)
/-- How many bytes are taken, where so many are asked for. -/
def mn (n : BitVec 64) (s : ByteArray) : Nat := (if (BitVec.ofNat 64 s.size).slt n then BitVec.ofNat 64 s.size else n).toNat
theorem mn_eq {n s} {k : Nat} (hs : s.size < 9223372036854775808) (hn : n = BitVec.ofNat 64 k) (hk : k ≤ 8) : mn n s = min k s.size ∧ 0 ≤ (if (BitVec.ofNat 64 s.size).slt n then BitVec.ofNat 64 s.size else n).toInt := by
  subst hn
  unfold mn
  cases h : (BitVec.ofNat 64 s.size).slt (BitVec.ofNat 64 k) with
  | true =>
    rw [BitVec.slt_iff_toInt_lt, toInt_ofNat hs, toInt_ofNat (by omega)] at h
    rw [if_pos rfl, nat_of hs, toInt_ofNat hs]; omega
  | false =>
    have h : ¬ ((BitVec.ofNat 64 s.size).toInt < (BitVec.ofNat 64 k).toInt) := by rw [← BitVec.slt_iff_toInt_lt, h]; simp
    rw [toInt_ofNat hs, toInt_ofNat (by omega)] at h
    rw [if_neg (by simp), nat_of (by omega), toInt_ofNat (by omega)]; omega
def numT (n : BitVec 64) (s : ByteArray) : BitVec 64 := numB (exB s 0 (mn n s))
def dropT (n : BitVec 64) (s : ByteArray) : ByteArray := exB s (mn n s) s.size
def takeOK (n : BitVec 64) : Prop := n = 1#64 ∨ n = 4#64 ∨ n = 8#64
theorem take_ok {n s} (hs : s.size < 9223372036854775808) (hn : takeOK n) : (mn n s ≤ s.size ∧ mn n s ≤ 8) ∧ 0 ≤ (if (BitVec.ofNat 64 s.size).slt n then BitVec.ofNat 64 s.size else n).toInt := by
  rcases hn with rfl | rfl | rfl
  · have := mn_eq (k := 1) hs rfl (by decide); omega
  · have := mn_eq (k := 4) hs rfl (by decide); omega
  · have := mn_eq (k := 8) hs rfl (by decide); omega
def sp_take : SpW := fun args ch => match args, ch with
  | [.one (.ptr i p), .one (.b64 true n)], [(j, .cells T [.str s])] => some (Cond.p (i = 0 ∧ p = 0 ∧ j = 0 ∧ s.size < 9223372036854775808 ∧ takeOK n), .one (.b64 false (numT n s)), [(0, .cells T [.str (dropT n s)])])
  | _, _ => none
theorem look1 {T : TypeId} {s s' : ByteArray} : ∀ i d, Go.Ep.look [(0, Blk.cells T [.str s])] i = some d → Go.Ep.look [(0, Blk.cells T [.str s'])] i = lookU [(0, .cells T [.str s'])] i (some d)
  | 0, _, _ => rfl
  | n + 1, _, h => by cases h
set_option maxRecDepth 100000 in
set_option maxHeartbeats 4000000 in
theorem e_take (G2 : World → Prop) (D2 : VData) (k2 : DataOK Tryd.prog G2 D2) (m : Nat → Nat) : EntryW Tryd.prog (GN m G2) 85 sp_take := by
  refine .of_FI (C_CutPrefix G2 D2 k2 m) (by kernel_rfl) Tryd.func85 (by kernel_rfl) (by kernel_rfl) (fun args ch c v ups h hc => ?_)
  unfold sp_take at h
  split at h
  · rename_i i p n j T s; cases h
    obtain ⟨rfl, rfl, rfl, hs, hn⟩ := hc
    obtain ⟨⟨h1, h2⟩, h3⟩ := take_ok hs hn
    repeat' (first
      | (with_reducible apply Given.mk; intro h; (try exact absurd h (by decide)))
      | ((conv => whnf); with_reducible apply Both.mk))
    all_goals first
      | (with_reducible apply Ob.mk; kernel_rfl)
      | ((with_reducible apply Ob.mk); exact hs)
      | ((with_reducible apply Ob.mk); exact ⟨h3, Nat.zero_le _, h1⟩)
      | ((with_reducible apply Ob.mk); exact ⟨h3, h1, Nat.le_refl _⟩)
      | ((with_reducible apply Ob.mk); exact h3)
      | ((with_reducible apply Ob.mk); exact ⟨Nat.zero_le _, h1⟩)
      | ((with_reducible apply Ob.mk); exact ⟨h1, Nat.le_refl _⟩)
      | ((with_reducible apply Ob.mk); exact Nat.le_trans (Nat.le_of_eq (exB_size s 0 (mn n s) (Nat.zero_le _) h1)) h2)
      | ((conv => whnf); exact ⟨rfl, look1⟩)
      | ((conv => whnf); skip)
  · cases h
/-- A number of so many bytes, its sign told on. -/
def sgT (n : BitVec 64) (s : ByteArray) : BitVec 64 := match n.toNat with
  | 1 => (numT n s <<< 56).sshiftRight 56
  | 4 => (numT n s <<< 32).sshiftRight 32
  | _ => (numT n s <<< 0).sshiftRight 0
def sp_signed : SpW := fun args ch => match args, ch with
  | [.one (.ptr i p), .one (.b64 true n)], [(j, .cells T [.str s])] => some (Cond.p (i = 0 ∧ p = 0 ∧ j = 0 ∧ s.size < 9223372036854775808 ∧ takeOK n), .one (.b64 true (sgT n s)), [(0, .cells T [.str (dropT n s)])])
  | _, _ => none
noncomputable abbrev FSd : List (Nat × Func) := [(71, Tryd.f71)]
theorem fs_d : FsOK Tryd.prog FSd := FsOK.cons Tryd.func71 (by kernel_rfl) (by kernel_rfl) FsOK.nil
set_option maxRecDepth 100000 in
set_option maxHeartbeats 4000000 in
theorem e_signed (G2 : World → Prop) (D2 : VData) (k2 : DataOK Tryd.prog G2 D2) (m : Nat → Nat) : EntryW Tryd.prog (GN m G2) 86 sp_signed := by
  refine .of_FI ((CSound.tabI (C_CutPrefix G2 D2 k2 m) (by kernel_rfl) fs_d 2).withW (.cons (e_take G2 D2 k2 m) .nil)) (by kernel_rfl) Tryd.func86 (by kernel_rfl) (by kernel_rfl) (fun args ch c v ups h hc => ?_)
  unfold sp_signed at h
  split at h
  · rename_i i p n j T s; cases h
    obtain ⟨rfl, rfl, rfl, hs, hn⟩ := hc
    have ht := hn
    rcases hn with rfl | rfl | rfl
    all_goals
      repeat' (first
        | (with_reducible apply Given.mk; intro h; (try exact absurd h (by decide)))
        | ((conv => whnf); with_reducible apply Both.mk))
      all_goals first
        | (with_reducible apply Ob.mk; kernel_rfl)
        | ((with_reducible apply Ob.mk); exact hs)
        | ((with_reducible apply Ob.mk); exact ⟨rfl, rfl, rfl, hs, ht⟩)
        | (with_reducible apply Ob.mk; decide)
        | ((conv => whnf); exact ⟨rfl, look1⟩)
        | ((conv => whnf); skip)
  · cases h
def cutT (p s : ByteArray) : ByteArray := if pre s p then exB s p.size s.size else s
def sp_prefix : SpW := fun args ch => match args, ch with
  | [.one (.ptr i q), .one (.str p)], [(j, .cells T [.str s])] => some (Cond.p (i = 0 ∧ q = 0 ∧ j = 0 ∧ s.size < 9223372036854775808 ∧ p.size < 9223372036854775808), .one (.bool (pre s p)), [(0, .cells T [.str (cutT p s)])])
  | _, _ => none
set_option maxRecDepth 100000 in
set_option maxHeartbeats 4000000 in
theorem e_prefix (G2 : World → Prop) (D2 : VData) (k2 : DataOK Tryd.prog G2 D2) (m : Nat → Nat) : EntryW Tryd.prog (GN m G2) 84 sp_prefix := by
  refine .of_FI (C_CutPrefix G2 D2 k2 m) (by kernel_rfl) Tryd.func84 (by kernel_rfl) (by kernel_rfl) (fun args ch c v ups h hc => ?_)
  unfold sp_prefix at h
  split at h
  · rename_i i q p j T s; cases h
    obtain ⟨rfl, rfl, rfl, hs, hp⟩ := hc
    cases hq : pre s p
    all_goals
      rw [show cutT p s = if pre s p then exB s p.size s.size else s from rfl, hq]
      repeat' (first
        | (with_reducible apply Given.mk; intro h; (try (rw [hq] at h; exact absurd h (by decide))))
        | ((conv => whnf); with_reducible apply Both.mk))
      all_goals first
        | (with_reducible apply Ob.mk; kernel_rfl)
        | ((with_reducible apply Ob.mk); exact hs)
        | ((with_reducible apply Ob.mk); exact ⟨hs, hp⟩)
        | ((conv => whnf); refine ⟨by rw [hq], fun i d h => ?_⟩; exact look1 i d h)
        | ((conv => whnf); exact ⟨by rw [hq], by rw [hq]; exact look1⟩)
        | ((conv => whnf); skip)
  · cases h
def szF (bh op : BitVec 64) (two half w : Bool) : BitVec 64 := if bh == 5#64 then (if two then (if op == 182#64 then 1#64 else 2#64) else if half then 2#64 else if w then 8#64 else 4#64) else (if op == 136#64 then 1#64 else if half then 2#64 else if w then 8#64 else 4#64)
def sp_size : Sp
  | [.one (.b64 true bh), .one (.b64 true op), .one (.bool two), .one (.bool half), .one (.bool w)] => some (Cond.p (bh = 5#64 ∨ bh = 6#64), .one (.b64 true (szF bh op two half w)))
  | _ => none
set_option maxRecDepth 100000 in
set_option maxHeartbeats 4000000 in
theorem e_size (G2 : World → Prop) (D2 : VData) (k2 : DataOK Tryd.prog G2 D2) (m : Nat → Nat) : EntryOK Tryd.prog (GN m G2) 87 sp_size := by
  refine .of_F (C_CutPrefix G2 D2 k2 m) (by kernel_rfl) Tryd.func87 (by kernel_rfl) (by kernel_rfl) (fun args c v h hc => ?_)
  unfold sp_size at h
  split at h
  · rename_i bh op two half w; cases h
    refine ⟨rfl, rfl, ?_⟩
    rcases hc with rfl | rfl
    all_goals
      repeat' (first
        | (with_reducible apply Given.mk; intro h; (try exact absurd h (by decide)))
        | ((conv => whnf); with_reducible apply Both.mk))
      all_goals first
        | (with_reducible apply Ob.mk; kernel_rfl)
        | ((with_reducible apply Ob.mk); exact hs)
        | ((conv => whnf); refine ⟨?_⟩; unfold szF; simp_all; done)
        | ((conv => whnf); refine ⟨?_⟩; unfold szF; cases two <;> cases half <;> cases w <;> simp_all; done)
        | ((conv => whnf); skip)
  · cases h
abbrev tb_size (m : Nat → Nat) : List (Nat × Sp) := (87, sp_size) :: tb_CutPrefix m
theorem C_size (G2 : World → Prop) (D2 : VData) (k2 : DataOK Tryd.prog G2 D2) (m : Nat → Nat) : CSound Tryd.prog (GN m G2) (tab (DN m D2) (tb_size m)) := (C_CutPrefix G2 D2 k2 m).cons (e_size G2 D2 k2 m)
abbrev ws_r : List (Nat × SpW) := [(85, sp_take), (86, sp_signed), (84, sp_prefix)]
theorem W_r (G2 : World → Prop) (D2 : VData) (k2 : DataOK Tryd.prog G2 D2) (m : Nat → Nat) : EntriesW Tryd.prog (GN m G2) ws_r := .cons (e_take G2 D2 k2 m) (.cons (e_signed G2 D2 k2 m) (.cons (e_prefix G2 D2 k2 m) .nil))
end Go.Proofs.YtppankimieopiaaDoor
