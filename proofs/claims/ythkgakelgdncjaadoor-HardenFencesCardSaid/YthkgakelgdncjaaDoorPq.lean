/-
  Blocks that are handed on to be read alone. Conditions: as typed.
-/
import Derived.Test.YthkgakelgdncjaaDoorPl
namespace Go.Ep
open Go.RowKit
set_option linter.unusedVariables false
set_option linter.unusedSimpArgs false
/-- Cells that hold addresses are no longer told. -/
def jkL (l : L) : L := match l.names with
  | [] => l
  | _ => .junk
def jkLs : List L → List L
  | [] => []
  | l :: ls => jkL l :: jkLs ls
theorem jkL_names (l : L) : (jkL l).names = [] := by
  unfold jkL
  split
  · assumption
  · rfl
theorem jkLs_names : ∀ ls : List L, lnames (jkLs ls) = []
  | [] => rfl
  | l :: ls => by simp [jkLs, lnames, jkL_names, jkLs_names ls]
theorem relI_jk {ρ : Nat → Loc} {l : L} {us : List Value} (h : RelI ρ l us) : RelI ρ (jkL l) us := by
  unfold jkL
  split
  · exact h
  · rename_i hn
    have hs : isSeg l = false := by cases l <;> first | rfl | exact absurd rfl hn
    obtain ⟨v, e, -⟩ := (relI_one hs).1 h
    exact ⟨v, e, fun hj => absurd rfl hj⟩
theorem relLs_jk {ρ : Nat → Loc} : ∀ {ls : List L} {us : List Value}, RelLs ρ ls us → RelLs ρ (jkLs ls) us
  | [], us, h => h
  | l :: ls, us, h => by
    obtain ⟨a, b, e, h1, h2⟩ := h
    exact ⟨a, b, e, relI_jk h1, relLs_jk h2⟩
/-- Blocks that are handed on to be read alone. -/
def roB : Blk → Option Blk
  | .cells T ls => some (.ro T (jkLs ls))
  | .ro T ls => some (.ro T (jkLs ls))
  | .row T z n f => some (.ro T [.seg z n f])
  | .imap es => some (.romap es)
  | .romap es => some (.romap es)
def roBs : List (Nat × Blk) → Option (List (Nat × Blk))
  | [] => some []
  | (i, b) :: r => match roB b, roBs r with
    | some b, some r => some ((i, b) :: r)
    | _, _ => none
theorem lnames_ro {T : TypeId} {ls : List L} : (Blk.ro T ls).names = lnames ls := rfl
theorem roB_spec {b c : Blk} (h : roB b = some c) : c.own = false ∧ c.names = [] ∧ ∀ (ρ : Nat → Loc) (q : Loc) (o : Option Obj), RelB ρ q b o → RelB ρ q c o := by
  cases b with
  | cells T ls =>
    obtain rfl := Option.some.inj h
    refine ⟨rfl, jkLs_names ls, fun ρ q o hb => ?_⟩
    obtain ⟨cs, e, h0, h1⟩ := hb
    exact ⟨cs, (0, 0), e, cs.toList, [], by rw [h0]; simp, relLs_jk h1⟩
  | ro T ls =>
    obtain rfl := Option.some.inj h
    refine ⟨rfl, jkLs_names ls, fun ρ q o hb => ?_⟩
    obtain ⟨cs, fr, e, us, ws, h0, h1⟩ := hb
    exact ⟨cs, fr, e, us, ws, h0, relLs_jk h1⟩
  | row T z n f =>
    obtain rfl := Option.some.inj h
    refine ⟨rfl, rfl, fun ρ q o hb => ?_⟩
    obtain ⟨cs, e, h0, h1, h2, h3, h4⟩ := hb
    exact ⟨cs, (0, 0), e, cs.toList.take (z * n), cs.toList.drop (z * n), by rw [h0]; simp, cs.toList.take (z * n), [], by simp, h4, rfl⟩
  | imap es =>
    obtain rfl := Option.some.inj h
    exact ⟨rfl, rfl, fun ρ q o hb => hb⟩
  | romap es =>
    obtain rfl := Option.some.inj h
    exact ⟨rfl, rfl, fun ρ q o hb => hb⟩
theorem roBs_look : ∀ {bs ro : List (Nat × Blk)}, roBs bs = some ro → ∀ i c, look ro i = some c → ∃ b, (i, b) ∈ bs ∧ roB b = some c
  | [], ro, h, i, c, hi => by
    obtain rfl := Option.some.inj h
    simp [look] at hi
  | (j, b) :: r, ro, h, i, c, hi => by
    simp only [roBs] at h
    split at h
    · rename_i b' r' h1 h2
      obtain rfl := Option.some.inj h
      rw [look_eq_beq] at hi
      split at hi
      · rename_i e
        subst e
        obtain rfl := Option.some.inj hi
        exact ⟨b, by simp, h1⟩
      · obtain ⟨b0, h3, h4⟩ := roBs_look h2 i c hi
        exact ⟨b0, by simp [h3], h4⟩
    · cases h
theorem roBs_rel {bs ro : List (Nat × Blk)} (h : roBs bs = some ro) {ρ : Nat → Loc} {w : World} (hB : RelBs ρ bs w) (hl : ∀ p ∈ bs, (ρ p.1).b < w.heap.size) : RelH w.heap.size w ρ (look ro) w := by
  refine ⟨fun i c hi => ?_, fun i c hi m hm => ?_, fun i c hi => ?_, fun i j c d hi hj ho _ => ?_, Below.refl _ _, Nat.le_refl _⟩
  · obtain ⟨b, h1, h2⟩ := roBs_look h i c hi
    exact (roB_spec h2).2.2 ρ _ _ (hB _ h1)
  · obtain ⟨b, h1, h2⟩ := roBs_look h i c hi
    rw [(roB_spec h2).2.1] at hm; simp at hm
  · obtain ⟨b, h1, h2⟩ := roBs_look h i c hi
    exact ⟨fun e => (by rw [(roB_spec h2).1] at e; cases e), fun _ => hl _ h1⟩
  · obtain ⟨b, h1, h2⟩ := roBs_look h i c hi
    rw [(roB_spec h2).1] at ho; cases ho
end Go.Ep
