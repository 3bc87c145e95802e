/-
  What the package variables of codec hold: the forms' opcodes, read one by one; the stores' opcodes. Conditions: as typed.
-/
import Derived.Test.YtppankimieopiaaDoorCpX
namespace Go.Proofs.YtppankimieopiaaDoor
open Go.Ep Go.RowKit Go.ChangeShapes Go.WideShapes Go.WideElems
set_option linter.unusedVariables false
set_option linter.unusedSimpArgs false
def formS : List (Nat × List L) := [(0, [.str ⟨⟨[]⟩⟩]), (7, [.str ⟨⟨[137]⟩⟩]), (14, [.str ⟨⟨[199]⟩⟩]), (21, [.str ⟨⟨[184]⟩⟩]), (28, [.str ⟨⟨[1]⟩⟩]), (35, [.str ⟨⟨[129]⟩⟩]), (42, [.str ⟨⟨[133]⟩⟩]), (49, [.str ⟨⟨[247]⟩⟩]), (56, [.str ⟨⟨[247]⟩⟩]), (63, [.str ⟨⟨[247]⟩⟩]), (70, [.str ⟨⟨[15, 175]⟩⟩]), (77, [.str ⟨⟨[193]⟩⟩]), (84, [.str ⟨⟨[211]⟩⟩]), (91, [.str ⟨⟨[]⟩⟩]), (98, [.str ⟨⟨[]⟩⟩]), (105, [.str ⟨⟨[]⟩⟩]), (112, [.str ⟨⟨[]⟩⟩]), (119, [.str ⟨⟨[80]⟩⟩]), (126, [.str ⟨⟨[88]⟩⟩]), (133, [.str ⟨⟨[195]⟩⟩]), (140, [.str ⟨⟨[232]⟩⟩]), (147, [.str ⟨⟨[15, 174, 232]⟩⟩])]
def strOf : List L → ByteArray
  | [.str s] => s
  | _ => ⟨#[]⟩
theorem formS_ok : ∀ p ∈ formS, (flatC 8 (Rows.laid_firewall_codec_forms : DataW Unit))[p.1]? = some (.string (strOf p.2)) ∧ p.1 < 154 ∧ p.2 = [.str (strOf p.2)] := by
  intro p hp
  simp only [formS, List.mem_cons, List.not_mem_nil, or_false] at hp
  rcases hp with rfl | rfl | rfl | rfl | rfl | rfl | rfl | rfl | rfl | rfl | rfl | rfl | rfl | rfl | rfl | rfl | rfl | rfl | rfl | rfl | rfl | rfl
  all_goals exact ⟨by kernel_rfl, by decide, rfl⟩
def Dfs : VData where
  glob := fun T g off => match Nat.beq T 9, Nat.beq g 1 with
    | true, true => match rowOf formS off with
      | some [l] => some (.one l)
      | _ => none
    | _, _ => none
  look := fun _ _ _ _ _ => none
theorem Dfs_ok : DataOK Tryd.prog Gfm Dfs := by
  refine ⟨fun w w' h hb => ⟨Nat.lt_of_lt_of_le h.1 hb.size, fun j hj => by rw [World.cell?_of_block (w := w) (hb.block _ h.1)]; exact h.2 j hj⟩, fun T g off v h => ?_, fun T ok g b key c v h => by cases h⟩
  simp only [Dfs] at h
  split at h
  · rename_i h1 h2
    obtain rfl : T = 9 := by simpa using h1
    obtain rfl : g = 1 := by simpa using h2
    split at h
    · rename_i l hl
      obtain rfl := Option.some.inj h
      obtain ⟨e1, e2, e3⟩ := formS_ok _ (rowOf_mem hl)
      simp only at e1 e2 e3
      obtain ⟨u, hu⟩ : ∃ u, l = .str u := ⟨_, by simpa using e3⟩
      subst hu
      refine ⟨rfl, fun w hw => ⟨.string u, ?_, fun ρ _ => rfl⟩⟩
      have h3 := hw.2 off (by rw [forms_len]; exact e2)
      rw [e1] at h3
      simp [loadVar, isAgg_run (P := Tryd.prog) (T := 9) (b := false) (by kernel_rfl), h3, strOf]
    · cases h
  · cases h
/-- The world of chapter 11: m tells where the maps and the conditions lie. -/
abbrev GN (m : Nat → Nat) (G2 : World → Prop) : World → Prop := and2 (GB m) (and2 Gfm (and2 (Gstq m) G2))
abbrev DN (m : Nat → Nat) (D2 : VData) : VData := or2 (DB m) (or2 Dfs (or2 (Dstq m) D2))
theorem kN {G2 : World → Prop} {D2 : VData} (k2 : DataOK Tryd.prog G2 D2) (m : Nat → Nat) : DataOK Tryd.prog (and2 Gfm (and2 (Gstq m) G2)) (or2 Dfs (or2 (Dstq m) D2)) := ok2 Dfs_ok (ok2 (Dstq_ok m) k2)
theorem CN_Valid {G2 : World → Prop} {D2 : VData} (k2 : DataOK Tryd.prog G2 D2) (m : Nat → Nat) : CSound Tryd.prog (GN m G2) (tab (DN m D2) (tb_codec_Valid m)) := C_codec_Valid _ _ (kN k2 m) m
end Go.Proofs.YtppankimieopiaaDoor
