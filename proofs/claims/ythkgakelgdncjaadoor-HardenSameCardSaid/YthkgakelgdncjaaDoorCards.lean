/-
  DERIVED. GIVEN WITH THE SEED: THE CARDS: each row of YthkgakelgdncjaaDoorRows.lean that lists a variable, with what it lists TIED to the program's text (the seventh form; the later family's looks); each row that meets fmt, with fmt's text TOLD by the authors' own Lean function (tested against real Go, not proved from fmt's source: count such statements apart). THE CARD IS WHAT COUNTS. Prove the row's statement (the work); the ties are given (YthkgakelgdncjaaDoorTie.lean); close each card by the builder's one call (the guide's Derived/Test/ToyasCard.lean, 'card_holds'). Laid BY PROGRAM, IN A SANDBOX (cutbox-door.mjs). By AI agents, Wed Nov 11 2026. No macro, syntax, notation, axiom, sorry.
-/
import Derived.Test.YthkgakelgdncjaaDoorRows
import GoSem.ClaimSeven
namespace Go.Proofs.YthkgakelgdncjaaDoor
namespace Rows

/-- THE TIED CARD OF 'firewalllaw23.HardenTell'. -/
def hardenTellCard : Claim7 := { stood := { row := hardenTellRow, standIns := [], harness := (true, "9e599aecad9be4ab35b5a969a60fb8ea55e7705696d0f6f4b94b4967a5dcea33"), looks := false }, kinds := [], alts := [], laidByText := true, laidKinds := [.data], laidTests := true, laidLooks := .later }
def HardenTellCardSaid : Prop := Claim7.holds Tryd.pinned (.plain (OpenSpec.ofChange hardenTellSpec)) hardenTellCard

/-- THE TIED CARD OF 'firewalllaw23.HardenSame'. -/
def hardenSameCard : Claim7 := { stood := { row := hardenSameRow, standIns := [], harness := (true, "9e599aecad9be4ab35b5a969a60fb8ea55e7705696d0f6f4b94b4967a5dcea33"), looks := false }, kinds := [], alts := [], laidByText := true, laidKinds := [.data], laidTests := true, laidLooks := .later }
def HardenSameCardSaid : Prop := Claim7.holds Tryd.pinned (.plain (OpenSpec.ofChange hardenSameSpec)) hardenSameCard

/-- THE TIED CARD OF 'firewalllaw23.HardenFences'. -/
def hardenFencesCard : Claim7 := { stood := { row := hardenFencesRow, standIns := [], harness := (true, "9e599aecad9be4ab35b5a969a60fb8ea55e7705696d0f6f4b94b4967a5dcea33"), looks := false }, kinds := [], alts := [], laidByText := true, laidKinds := [.data], laidTests := true, laidLooks := .later }
def HardenFencesCardSaid : Prop := Claim7.holds Tryd.pinned (.plain (OpenSpec.ofChange hardenFencesSpec)) hardenFencesCard

/-- THE SECOND FORM's CARD OF 'firewalllaw23.HardenTell'. -/
def hardenTellUptoCard : Claim7 := { stood := { row := hardenTellUptoRow, standIns := [], harness := (true, "9e599aecad9be4ab35b5a969a60fb8ea55e7705696d0f6f4b94b4967a5dcea33"), looks := false }, kinds := [], alts := [], laidByText := true, laidKinds := [.data], laidTests := true, laidLooks := .later }
def HardenTellUptoCardSaid : Prop := Claim7.holds Tryd.pinned (.plain (OpenSpec.upto hardenTellSpec)) hardenTellUptoCard

/-- THE SECOND FORM's CARD OF 'firewalllaw23.HardenSame'. -/
def hardenSameUptoCard : Claim7 := { stood := { row := hardenSameUptoRow, standIns := [], harness := (true, "9e599aecad9be4ab35b5a969a60fb8ea55e7705696d0f6f4b94b4967a5dcea33"), looks := false }, kinds := [], alts := [], laidByText := true, laidKinds := [.data], laidTests := true, laidLooks := .later }
def HardenSameUptoCardSaid : Prop := Claim7.holds Tryd.pinned (.plain (OpenSpec.upto hardenSameSpec)) hardenSameUptoCard

/-- THE SECOND FORM's CARD OF 'firewalllaw23.HardenFences'. -/
def hardenFencesUptoCard : Claim7 := { stood := { row := hardenFencesUptoRow, standIns := [], harness := (true, "9e599aecad9be4ab35b5a969a60fb8ea55e7705696d0f6f4b94b4967a5dcea33"), looks := false }, kinds := [], alts := [], laidByText := true, laidKinds := [.data], laidTests := true, laidLooks := .later }
def HardenFencesUptoCardSaid : Prop := Claim7.holds Tryd.pinned (.plain (OpenSpec.upto hardenFencesSpec)) hardenFencesUptoCard
end Rows
end Go.Proofs.YthkgakelgdncjaaDoor
