/-
  Instructions: when one may stand, field by field. Plain mathematics. Conditions: none.
-/
import Derived.Test.YthkgakelgdncjaaDoorInM
namespace Go.Proofs.YthkgakelgdncjaaDoor
set_option linter.unusedVariables false
set_option linter.unusedSimpArgs false

def chk (K x w f n : Bool) : BitVec 64 := if !K then 20#64 else if x || w then 22#64 else if f then 21#64 else if n then 23#64 else 0#64
theorem chk_zero {K x w f n : Bool} (h : chk K x w f n = 0#64) : K = true ∧ x = false ∧ w = false ∧ f = false ∧ n = false := by
  revert h; cases K <;> cases x <;> cases w <;> cases f <;> cases n <;> decide
theorem iCheck_chk (o d s : BitVec 8) (off : BitVec 16) (imm : BitVec 32) (inner : Bool) : iCheck o d s off imm inner =
    chk (fK o inner) ((10#8).ult d || (10#8).ult s) (fW o && d == 10#8) (!(fD o) && d != 0#8 || !(fS o) && s != 0#8 || !(fO o) && off != 0#16 || !(fI o) && imm != 0#32 || o == 24#8 && (1#8).ult s) (fI o && !(iN' o imm)) := rfl
structure Fits (o d s : BitVec 8) (off : BitVec 16) (imm : BitVec 32) : Prop where
  K : fK o true = true
  hd : (10#8).ult d = false
  hs : (10#8).ult s = false
  w : (fW o && d == 10#8) = false
  fd : (!(fD o) && d != 0#8) = false
  fs : (!(fS o) && s != 0#8) = false
  fo : (!(fO o) && off != 0#16) = false
  fi : (!(fI o) && imm != 0#32) = false
  l : (o == 24#8 && (1#8).ult s) = false
  n : (fI o && !(iN' o imm)) = false
theorem fits_of {o d s : BitVec 8} {off : BitVec 16} {imm : BitVec 32} (h : iCheck o d s off imm true = 0#64) : Fits o d s off imm := by
  rw [iCheck_chk] at h
  obtain ⟨h1, h2, h3, h4, h5⟩ := chk_zero h
  simp only [Bool.or_eq_false_iff] at h2 h4
  obtain ⟨⟨⟨⟨a, b⟩, c⟩, d⟩, e⟩ := h4
  exact ⟨h1, h2.1, h2.2, h3, a, b, c, d, e, h5⟩
theorem and_ff (x y : Bool) : (!x && y) = false ↔ (x = true ∨ y = false) := by cases x <;> cases y <;> decide
theorem fld_dst {o d s : BitVec 8} {off : BitVec 16} {imm : BitVec 32} (h : Fits o d s off imm) (d' : BitVec 8) :
    iCheck o d' s off imm true = 0#64 ∨ iCheck o d' s off imm true = 22#64 ∨ iCheck o d' s off imm true = 21#64 ∧ d = 0#8 := by
  obtain ⟨h1, h2, h3, h4, h5, h6, h7, h8, h9, h10⟩ := h
  rw [iCheck_chk, h1, h3, h6, h7, h8, h9, h10]
  cases a : (10#8).ult d' <;> cases b : (fW o && d' == 10#8) <;> cases c : (!(fD o) && d' != 0#8)
  all_goals first
    | exact .inl rfl
    | exact .inr (.inl rfl)
    | (refine .inr (.inr ⟨rfl, ?_⟩)
       rw [and_ff] at h5
       rcases h5 with h5 | h5
       · rw [h5] at c; cases c
       · simpa using h5)
theorem fld_dst0 {o d s : BitVec 8} {off : BitVec 16} {imm : BitVec 32} (h : Fits o d s off imm) : iCheck o 0#8 s off imm true = 0#64 := by
  obtain ⟨h1, h2, h3, h4, h5, h6, h7, h8, h9, h10⟩ := h
  rw [iCheck_chk, h1, h3, h6, h7, h8, h9, h10]
  have e : (fW o && 0#8 == 10#8) = false := by cases fW o <;> rfl
  have e2 : (!(fD o) && 0#8 != 0#8) = false := by cases fD o <;> rfl
  rw [e, e2]; rfl
theorem fld_src {o d s : BitVec 8} {off : BitVec 16} {imm : BitVec 32} (h : Fits o d s off imm) (s' : BitVec 8) :
    iCheck o d s' off imm true = 0#64 ∨ iCheck o d s' off imm true = 22#64 ∨ iCheck o d s' off imm true = 21#64 ∧ (s.setWidth 64).slt 2#64 = true := by
  obtain ⟨h1, h2, h3, h4, h5, h6, h7, h8, h9, h10⟩ := h
  rw [iCheck_chk, h1, h2, h4, h5, h7, h8, h10]
  cases a : (10#8).ult s' <;> cases c : (!(fS o) && s' != 0#8) <;> cases b : (o == 24#8 && (1#8).ult s')
  all_goals first
    | exact .inl rfl
    | exact .inr (.inl rfl)
    | (refine .inr (.inr ⟨rfl, ?_⟩)
       have : s.toNat < 2 := by
         first
           | (rw [and_ff] at h6
              rcases h6 with h6 | h6
              · rw [h6] at c; cases c
              · have : s = 0#8 := by simpa using h6
                subst this; decide)
           | (rw [Bool.and_eq_true] at b
              rw [b.1, Bool.true_and] at h9
              have : ¬ ((1#8).ult s = true) := by rw [h9]; decide
              simp only [BitVec.ult, decide_eq_true_eq, BitVec.toNat_ofNat] at this
              omega)
       rw [BitVec.slt_iff_toInt_lt, BitVec.toInt_eq_toNat_cond, BitVec.toNat_setWidth]
       have h2 : (2#64).toInt = 2 := rfl
       rw [h2]
       split <;> omega)
theorem fld_src0 {o d s : BitVec 8} {off : BitVec 16} {imm : BitVec 32} (h : Fits o d s off imm) : iCheck o d 0#8 off imm true = 0#64 := by
  obtain ⟨h1, h2, h3, h4, h5, h6, h7, h8, h9, h10⟩ := h
  rw [iCheck_chk, h1, h2, h4, h5, h7, h8, h10]
  have e : (!(fS o) && 0#8 != 0#8) = false := by cases fS o <;> rfl
  have e2 : (o == 24#8 && (1#8).ult 0#8) = false := by cases (o == 24#8) <;> rfl
  rw [e, e2]; rfl
theorem fld_off {o d s : BitVec 8} {off : BitVec 16} {imm : BitVec 32} (h : Fits o d s off imm) (f' : BitVec 16) :
    iCheck o d s f' imm true = 0#64 ∨ iCheck o d s f' imm true = 21#64 ∧ off = 0#16 := by
  obtain ⟨h1, h2, h3, h4, h5, h6, h7, h8, h9, h10⟩ := h
  rw [iCheck_chk, h1, h2, h3, h4, h5, h6, h8, h9, h10]
  cases c : (!(fO o) && f' != 0#16)
  · exact .inl rfl
  · refine .inr ⟨rfl, ?_⟩
    rw [and_ff] at h7
    rcases h7 with h7 | h7
    · rw [h7] at c; cases c
    · simpa using h7
theorem fld_off0 {o d s : BitVec 8} {off : BitVec 16} {imm : BitVec 32} (h : Fits o d s off imm) : iCheck o d s 0#16 imm true = 0#64 := by
  obtain ⟨h1, h2, h3, h4, h5, h6, h7, h8, h9, h10⟩ := h
  rw [iCheck_chk, h1, h2, h3, h4, h5, h6, h8, h9, h10]
  have e : (!(fO o) && 0#16 != 0#16) = false := by cases fO o <;> rfl
  rw [e]; rfl
theorem fld_imm {o d s : BitVec 8} {off : BitVec 16} {imm : BitVec 32} (h : Fits o d s off imm) (i' : BitVec 32) :
    iCheck o d s off i' true = 0#64 ∨ iCheck o d s off i' true = 23#64 ∨ iCheck o d s off i' true = 21#64 ∧ imm = 0#32 := by
  obtain ⟨h1, h2, h3, h4, h5, h6, h7, h8, h9, h10⟩ := h
  rw [iCheck_chk, h1, h2, h3, h4, h5, h6, h7, h9]
  cases c : (!(fI o) && i' != 0#32) <;> cases b : (fI o && !(iN' o i'))
  all_goals first
    | exact .inl rfl
    | exact .inr (.inl rfl)
    | (refine .inr (.inr ⟨rfl, ?_⟩)
       rw [and_ff] at h8
       rcases h8 with h8 | h8
       · rw [h8] at c; cases c
       · simpa using h8)
theorem fld_imm0 {o d s : BitVec 8} {off : BitVec 16} {imm : BitVec 32} (h : Fits o d s off imm) : iCheck o d s off 0#32 true = 0#64 ∨ iCheck o d s off 0#32 true = 23#64 := by
  rcases fld_imm h 0#32 with e | e | ⟨e, -⟩
  · exact .inl e
  · exact .inr e
  · exfalso
    obtain ⟨h1, h2, h3, h4, h5, h6, h7, h8, h9, h10⟩ := h
    rw [iCheck_chk, h1, h2, h3, h4, h5, h6, h7, h9] at e
    have e2 : (!(fI o) && 0#32 != 0#32) = false := by cases fI o <;> rfl
    rw [e2] at e
    cases b : (fI o && !(iN' o 0#32)) <;> rw [b] at e <;> exact absurd e (by decide)
theorem in_other (o d s : BitVec 8) (off : BitVec 16) (imm : BitVec 32) (h : o ≠ 194#8) : iCheck o d s off imm false = iCheck o d s off imm true := by
  have e : fK o false = fK o true := by
    have : isNs o = false := by simp [isNs, h]
    simp only [fK, this, Bool.false_and]
  rw [iCheck_chk, iCheck_chk, e]
theorem in_ns0 (d s : BitVec 8) (off : BitVec 16) (imm : BitVec 32) : iCheck 194#8 d s off imm false = 20#64 := rfl
theorem in_ns1 (d s : BitVec 8) (off : BitVec 16) (imm : BitVec 32) : (iCheck 194#8 d s off imm true == 0#64) = (194#8 == 194#8 && (d == 0#8 && (s == 0#8 && (off == 0#16 && imm == 0#32)))) := by
  rw [iCheck_chk, show fK 194#8 true = true from rfl, show fW 194#8 = false from rfl, show fD 194#8 = false from rfl, show fS 194#8 = false from rfl, show fO 194#8 = false from rfl, show fI 194#8 = false from rfl,
    show (194#8 == 24#8) = false from rfl]
  by_cases h1 : d = 0#8
  · subst h1
    by_cases h2 : s = 0#8
    · subst h2
      by_cases h3 : off = 0#16
      · subst h3
        by_cases h4 : imm = 0#32
        · subst h4; rfl
        · have : (imm == 0#32) = false := by simpa using h4
          unfold bne; rw [this]; rfl
      · have : (off == 0#16) = false := by simpa using h3
        unfold bne; rw [this]; rfl
    · have : (s == 0#8) = false := by simpa using h2
      unfold bne; rw [this]
      cases (10#8).ult s <;> rfl
  · have : (d == 0#8) = false := by simpa using h1
    unfold bne; rw [this]
    cases (10#8).ult d <;> cases (10#8).ult s <;> rfl
theorem in_ns2 (d s : BitVec 8) (off : BitVec 16) (imm : BitVec 32) : (20#64 == iCheck 194#8 d s off imm true) = false := by
  rw [iCheck_chk, show fK 194#8 true = true from rfl]
  generalize ((10#8).ult d || (10#8).ult s) = a
  generalize (fW 194#8 && d == 10#8) = b
  generalize (fI 194#8 && !(iN' 194#8 imm)) = c
  generalize (!(fD 194#8) && d != 0#8 || !(fS 194#8) && s != 0#8 || !(fO 194#8) && off != 0#16 || !(fI 194#8) && imm != 0#32 || 194#8 == 24#8 && (1#8).ult s) = e
  revert a b c e
  decide
end Go.Proofs.YthkgakelgdncjaaDoor
