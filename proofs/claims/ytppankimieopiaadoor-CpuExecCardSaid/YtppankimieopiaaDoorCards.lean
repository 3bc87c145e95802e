/-
  DERIVED. GIVEN WITH THE SEED: THE CARDS: each row of YtppankimieopiaaDoorRows.lean that lists a variable, with what it lists TIED to the program's text (the seventh form; the later family's looks); each row that meets fmt, with fmt's text TOLD by the authors' own Lean function (tested against real Go, not proved from fmt's source: count such statements apart). THE CARD IS WHAT COUNTS. Prove the row's statement (the work); the ties are given (YtppankimieopiaaDoorTie.lean); close each card by the builder's one call (the guide's Derived/Test/ToyasCard.lean, 'card_holds'). Laid BY PROGRAM, IN A SANDBOX (cutbox-door.mjs). By AI agents, Wed Nov 11 2026. No macro, syntax, notation, axiom, sorry.
-/
import Derived.Test.YtppankimieopiaaDoorRows
import GoSem.ClaimSeven
namespace Go.Proofs.YtppankimieopiaaDoor
namespace Rows

/-- THE TIED CARD OF 'firewalllaw12.CpuExec'. -/
def cpuExecCard : Claim7 := { stood := { row := cpuExecRow, standIns := [], harness := (true, "8a722fc3d6e6b9e3235fd79515e127cc47809f37613eaf0b2d685d0b7416774f"), looks := false }, kinds := [], alts := [], laidByText := true, laidKinds := [.data, .mapped, .widerDeep, .mapped, .mapped], laidTests := true, laidLooks := .later }
def CpuExecCardSaid : Prop := Claim7.holds Tryd.pinned (.plain (OpenSpec.ofChange cpuExecSpec)) cpuExecCard

/-- THE TIED CARD OF 'firewalllaw12.CpuReckons'. -/
def cpuReckonsCard : Claim7 := { stood := { row := cpuReckonsRow, standIns := [], harness := (true, "8a722fc3d6e6b9e3235fd79515e127cc47809f37613eaf0b2d685d0b7416774f"), looks := false }, kinds := [], alts := [], laidByText := true, laidKinds := [.data, .mapped, .widerDeep, .mapped, .mapped], laidTests := true, laidLooks := .later }
def CpuReckonsCardSaid : Prop := Claim7.holds Tryd.pinned (.plain (OpenSpec.ofChange cpuReckonsSpec)) cpuReckonsCard

/-- THE TIED CARD OF 'firewalllaw12.CpuStays'. -/
def cpuStaysCard : Claim7 := { stood := { row := cpuStaysRow, standIns := [], harness := (true, "8a722fc3d6e6b9e3235fd79515e127cc47809f37613eaf0b2d685d0b7416774f"), looks := false }, kinds := [], alts := [], laidByText := true, laidKinds := [.data, .mapped, .widerDeep, .mapped, .mapped], laidTests := true, laidLooks := .later }
def CpuStaysCardSaid : Prop := Claim7.holds Tryd.pinned (.plain (OpenSpec.ofChange cpuStaysSpec)) cpuStaysCard

/-- THE TIED CARD OF 'firewalllaw11.CodecTell'. -/
def codecTellCard : Claim7 := { stood := { row := codecTellRow, standIns := [], harness := (true, "8a722fc3d6e6b9e3235fd79515e127cc47809f37613eaf0b2d685d0b7416774f"), looks := false }, kinds := [], alts := [], laidByText := true, laidKinds := [.data, .mapped, .mapped, .widerDeep], laidTests := true, laidLooks := .later }
def CodecTellCardSaid : Prop := Claim7.holds Tryd.pinned (.plain (OpenSpec.ofChange codecTellSpec)) codecTellCard

/-- THE TIED CARD OF 'firewalllaw11.CodecBytes'. -/
def codecBytesCard : Claim7 := { stood := { row := codecBytesRow, standIns := [], harness := (true, "8a722fc3d6e6b9e3235fd79515e127cc47809f37613eaf0b2d685d0b7416774f"), looks := false }, kinds := [], alts := [], laidByText := true, laidKinds := [.data, .mapped, .mapped, .widerDeep], laidTests := true, laidLooks := .later }
def CodecBytesCardSaid : Prop := Claim7.holds Tryd.pinned (.plain (OpenSpec.ofChange codecBytesSpec)) codecBytesCard

/-- THE TIED CARD OF 'firewalllaw11.CodecBack'. -/
def codecBackCard : Claim7 := { stood := { row := codecBackRow, standIns := [], harness := (true, "8a722fc3d6e6b9e3235fd79515e127cc47809f37613eaf0b2d685d0b7416774f"), looks := false }, kinds := [], alts := [], laidByText := true, laidKinds := [.data, .mapped, .mapped, .widerDeep], laidTests := true, laidLooks := .later }
def CodecBackCardSaid : Prop := Claim7.holds Tryd.pinned (.plain (OpenSpec.ofChange codecBackSpec)) codecBackCard

/-- THE TIED CARD OF 'firewalllaw11.CodecOne'. -/
def codecOneCard : Claim7 := { stood := { row := codecOneRow, standIns := [], harness := (true, "8a722fc3d6e6b9e3235fd79515e127cc47809f37613eaf0b2d685d0b7416774f"), looks := false }, kinds := [], alts := [], laidByText := true, laidKinds := [.data, .mapped, .mapped, .widerDeep], laidTests := true, laidLooks := .later }
def CodecOneCardSaid : Prop := Claim7.holds Tryd.pinned (.plain (OpenSpec.ofChange codecOneSpec)) codecOneCard

/-- THE TIED CARD OF 'firewalllaw11.CodecUnused'. -/
def codecUnusedCard : Claim7 := { stood := { row := codecUnusedRow, standIns := [], harness := (true, "8a722fc3d6e6b9e3235fd79515e127cc47809f37613eaf0b2d685d0b7416774f"), looks := false }, kinds := [], alts := [], laidByText := true, laidKinds := [.data, .mapped, .mapped, .widerDeep], laidTests := true, laidLooks := .later }
def CodecUnusedCardSaid : Prop := Claim7.holds Tryd.pinned (.plain (OpenSpec.ofChange codecUnusedSpec)) codecUnusedCard

/-- THE TIED CARD OF 'firewalllaw12.CpuTaken'. -/
def cpuTakenCard : Claim7 := { stood := { row := cpuTakenRow, standIns := [], harness := (true, "8a722fc3d6e6b9e3235fd79515e127cc47809f37613eaf0b2d685d0b7416774f"), looks := false }, kinds := [], alts := [], laidByText := true, laidKinds := [.data, .mapped, .widerDeep, .mapped, .mapped], laidTests := true, laidLooks := .later }
def CpuTakenCardSaid : Prop := Claim7.holds Tryd.pinned (.plain (OpenSpec.ofChange cpuTakenSpec)) cpuTakenCard

/-- THE TIED CARD OF 'firewalllaw12.CpuCompare'. -/
def cpuCompareCard : Claim7 := { stood := { row := cpuCompareRow, standIns := [], harness := (true, "8a722fc3d6e6b9e3235fd79515e127cc47809f37613eaf0b2d685d0b7416774f"), looks := false }, kinds := [], alts := [], laidByText := true, laidKinds := [.mapped, .mapped, .data, .mapped, .widerDeep, .mapped, .mapped], laidTests := true, laidLooks := .later }
def CpuCompareCardSaid : Prop := Claim7.holds Tryd.pinned (.plain (OpenSpec.ofChange cpuCompareSpec)) cpuCompareCard

/-- THE SECOND FORM's CARD OF 'firewalllaw12.CpuExec'. -/
def cpuExecUptoCard : Claim7 := { stood := { row := cpuExecUptoRow, standIns := [], harness := (true, "8a722fc3d6e6b9e3235fd79515e127cc47809f37613eaf0b2d685d0b7416774f"), looks := false }, kinds := [], alts := [], laidByText := true, laidKinds := [.data, .mapped, .widerDeep, .mapped, .mapped], laidTests := true, laidLooks := .later }
def CpuExecUptoCardSaid : Prop := Claim7.holds Tryd.pinned (.plain (OpenSpec.upto cpuExecSpec)) cpuExecUptoCard

/-- THE SECOND FORM's CARD OF 'firewalllaw12.CpuReckons'. -/
def cpuReckonsUptoCard : Claim7 := { stood := { row := cpuReckonsUptoRow, standIns := [], harness := (true, "8a722fc3d6e6b9e3235fd79515e127cc47809f37613eaf0b2d685d0b7416774f"), looks := false }, kinds := [], alts := [], laidByText := true, laidKinds := [.data, .mapped, .widerDeep, .mapped, .mapped], laidTests := true, laidLooks := .later }
def CpuReckonsUptoCardSaid : Prop := Claim7.holds Tryd.pinned (.plain (OpenSpec.upto cpuReckonsSpec)) cpuReckonsUptoCard

/-- THE SECOND FORM's CARD OF 'firewalllaw12.CpuStays'. -/
def cpuStaysUptoCard : Claim7 := { stood := { row := cpuStaysUptoRow, standIns := [], harness := (true, "8a722fc3d6e6b9e3235fd79515e127cc47809f37613eaf0b2d685d0b7416774f"), looks := false }, kinds := [], alts := [], laidByText := true, laidKinds := [.data, .mapped, .widerDeep, .mapped, .mapped], laidTests := true, laidLooks := .later }
def CpuStaysUptoCardSaid : Prop := Claim7.holds Tryd.pinned (.plain (OpenSpec.upto cpuStaysSpec)) cpuStaysUptoCard

/-- THE SECOND FORM's CARD OF 'firewalllaw11.CodecTell'. -/
def codecTellUptoCard : Claim7 := { stood := { row := codecTellUptoRow, standIns := [], harness := (true, "8a722fc3d6e6b9e3235fd79515e127cc47809f37613eaf0b2d685d0b7416774f"), looks := false }, kinds := [], alts := [], laidByText := true, laidKinds := [.data, .mapped, .mapped, .widerDeep], laidTests := true, laidLooks := .later }
def CodecTellUptoCardSaid : Prop := Claim7.holds Tryd.pinned (.plain (OpenSpec.upto codecTellSpec)) codecTellUptoCard

/-- THE SECOND FORM's CARD OF 'firewalllaw11.CodecBytes'. -/
def codecBytesUptoCard : Claim7 := { stood := { row := codecBytesUptoRow, standIns := [], harness := (true, "8a722fc3d6e6b9e3235fd79515e127cc47809f37613eaf0b2d685d0b7416774f"), looks := false }, kinds := [], alts := [], laidByText := true, laidKinds := [.data, .mapped, .mapped, .widerDeep], laidTests := true, laidLooks := .later }
def CodecBytesUptoCardSaid : Prop := Claim7.holds Tryd.pinned (.plain (OpenSpec.upto codecBytesSpec)) codecBytesUptoCard

/-- THE SECOND FORM's CARD OF 'firewalllaw11.CodecBack'. -/
def codecBackUptoCard : Claim7 := { stood := { row := codecBackUptoRow, standIns := [], harness := (true, "8a722fc3d6e6b9e3235fd79515e127cc47809f37613eaf0b2d685d0b7416774f"), looks := false }, kinds := [], alts := [], laidByText := true, laidKinds := [.data, .mapped, .mapped, .widerDeep], laidTests := true, laidLooks := .later }
def CodecBackUptoCardSaid : Prop := Claim7.holds Tryd.pinned (.plain (OpenSpec.upto codecBackSpec)) codecBackUptoCard

/-- THE SECOND FORM's CARD OF 'firewalllaw11.CodecOne'. -/
def codecOneUptoCard : Claim7 := { stood := { row := codecOneUptoRow, standIns := [], harness := (true, "8a722fc3d6e6b9e3235fd79515e127cc47809f37613eaf0b2d685d0b7416774f"), looks := false }, kinds := [], alts := [], laidByText := true, laidKinds := [.data, .mapped, .mapped, .widerDeep], laidTests := true, laidLooks := .later }
def CodecOneUptoCardSaid : Prop := Claim7.holds Tryd.pinned (.plain (OpenSpec.upto codecOneSpec)) codecOneUptoCard

/-- THE SECOND FORM's CARD OF 'firewalllaw11.CodecUnused'. -/
def codecUnusedUptoCard : Claim7 := { stood := { row := codecUnusedUptoRow, standIns := [], harness := (true, "8a722fc3d6e6b9e3235fd79515e127cc47809f37613eaf0b2d685d0b7416774f"), looks := false }, kinds := [], alts := [], laidByText := true, laidKinds := [.data, .mapped, .mapped, .widerDeep], laidTests := true, laidLooks := .later }
def CodecUnusedUptoCardSaid : Prop := Claim7.holds Tryd.pinned (.plain (OpenSpec.upto codecUnusedSpec)) codecUnusedUptoCard

/-- THE SECOND FORM's CARD OF 'firewalllaw12.CpuTaken'. -/
def cpuTakenUptoCard : Claim7 := { stood := { row := cpuTakenUptoRow, standIns := [], harness := (true, "8a722fc3d6e6b9e3235fd79515e127cc47809f37613eaf0b2d685d0b7416774f"), looks := false }, kinds := [], alts := [], laidByText := true, laidKinds := [.data, .mapped, .widerDeep, .mapped, .mapped], laidTests := true, laidLooks := .later }
def CpuTakenUptoCardSaid : Prop := Claim7.holds Tryd.pinned (.plain (OpenSpec.upto cpuTakenSpec)) cpuTakenUptoCard

/-- THE SECOND FORM's CARD OF 'firewalllaw12.CpuCompare'. -/
def cpuCompareUptoCard : Claim7 := { stood := { row := cpuCompareUptoRow, standIns := [], harness := (true, "8a722fc3d6e6b9e3235fd79515e127cc47809f37613eaf0b2d685d0b7416774f"), looks := false }, kinds := [], alts := [], laidByText := true, laidKinds := [.mapped, .mapped, .data, .mapped, .widerDeep, .mapped, .mapped], laidTests := true, laidLooks := .later }
def CpuCompareUptoCardSaid : Prop := Claim7.holds Tryd.pinned (.plain (OpenSpec.upto cpuCompareSpec)) cpuCompareUptoCard
end Rows
end Go.Proofs.YtppankimieopiaaDoor
