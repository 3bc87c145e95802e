/-
  DERIVED. GIVEN WITH THE SEED: THE CARDS: each row of YtnoaakipfbfajaaGreatDoorRows.lean that lists a variable, with what it lists TIED to the program's text (the seventh form; the later family's looks); each row that meets fmt, with fmt's text TOLD by the authors' own Lean function (tested against real Go, not proved from fmt's source: count such statements apart). THE CARD IS WHAT COUNTS. Prove the row's statement (the work); the ties are given (YtnoaakipfbfajaaGreatDoorTie.lean); close each card by the builder's one call (the guide's Derived/Test/ToyasCard.lean, 'card_holds'). Laid BY PROGRAM, IN A SANDBOX (cutbox-door.mjs). By AI agents, Wed Nov 11 2026. No macro, syntax, notation, axiom, sorry.
-/
import Derived.Test.YtnoaakipfbfajaaGreatDoorRows
import GoSem.ClaimSeven
namespace Go.Proofs.YtnoaakipfbfajaaGreatDoor
namespace Rows

/-- THE TIED CARD OF 'firewalllaw21.StepsNone'. -/
def stepsNoneCard : Claim7 := { stood := { row := stepsNoneRow, standIns := [], harness := (true, "59e32cbefac6ff9667e041c04fb58fbf272dd64ddda35e04061d65770534147d"), looks := false }, kinds := [], alts := [], laidByText := true, laidKinds := [.mapped, .funcs, .mapped, .mapped], laidTests := true, laidLooks := .later }
def StepsNoneCardSaid : Prop := Claim7.holds Tryz.pinned (.plain (OpenSpec.ofChange stepsNoneSpec)) stepsNoneCard

/-- THE SECOND FORM's CARD OF 'firewalllaw21.StepsNone'. -/
def stepsNoneUptoCard : Claim7 := { stood := { row := stepsNoneUptoRow, standIns := [], harness := (true, "59e32cbefac6ff9667e041c04fb58fbf272dd64ddda35e04061d65770534147d"), looks := false }, kinds := [], alts := [], laidByText := true, laidKinds := [.mapped, .funcs, .mapped, .mapped], laidTests := true, laidLooks := .later }
def StepsNoneUptoCardSaid : Prop := Claim7.holds Tryz.pinned (.plain (OpenSpec.upto stepsNoneSpec)) stepsNoneUptoCard
end Rows
end Go.Proofs.YtnoaakipfbfajaaGreatDoor
