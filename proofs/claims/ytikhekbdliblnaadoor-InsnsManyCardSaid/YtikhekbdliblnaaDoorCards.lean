/-
  DERIVED. GIVEN WITH THE SEED: THE CARDS: each row of YtikhekbdliblnaaDoorRows.lean that lists a variable, with what it lists TIED to the program's text (the seventh form; the later family's looks); each row that meets fmt, with fmt's text TOLD by the authors' own Lean function (tested against real Go, not proved from fmt's source: count such statements apart). THE CARD IS WHAT COUNTS. Prove the row's statement (the work); the ties are given (YtikhekbdliblnaaDoorTie.lean); close each card by the builder's one call (the guide's Derived/Test/ToyasCard.lean, 'card_holds'). Laid BY PROGRAM, IN A SANDBOX (cutbox-door.mjs). By AI agents, Wed Nov 11 2026. No macro, syntax, notation, axiom, sorry.
-/
import Derived.Test.YtikhekbdliblnaaDoorRows
import GoSem.ClaimSeven
namespace Go.Proofs.YtikhekbdliblnaaDoor
namespace Rows

/-- THE TIED CARD OF 'firewalllaw06.CondsTell'. -/
def condsTellCard : Claim7 := { stood := { row := condsTellRow, standIns := [], harness := (true, "55efa8dad91a1e7bb2da77b5f4264bdf7172c6854bb48f4c69247ca8e9e4dee6"), looks := false }, kinds := [], alts := [], laidByText := true, laidKinds := [.mapped, .mapped], laidTests := true, laidLooks := .later }
def CondsTellCardSaid : Prop := Claim7.holds Tryd.pinned (.plain (OpenSpec.ofChange condsTellSpec)) condsTellCard

/-- THE TIED CARD OF 'firewalllaw06.CondsOther'. -/
def condsOtherCard : Claim7 := { stood := { row := condsOtherRow, standIns := [], harness := (true, "55efa8dad91a1e7bb2da77b5f4264bdf7172c6854bb48f4c69247ca8e9e4dee6"), looks := false }, kinds := [], alts := [], laidByText := true, laidKinds := [.mapped, .mapped], laidTests := true, laidLooks := .later }
def CondsOtherCardSaid : Prop := Claim7.holds Tryd.pinned (.plain (OpenSpec.ofChange condsOtherSpec)) condsOtherCard

/-- THE TIED CARD OF 'firewalllaw06.CondsSigned'. -/
def condsSignedCard : Claim7 := { stood := { row := condsSignedRow, standIns := [], harness := (true, "55efa8dad91a1e7bb2da77b5f4264bdf7172c6854bb48f4c69247ca8e9e4dee6"), looks := false }, kinds := [], alts := [], laidByText := true, laidKinds := [.mapped, .mapped], laidTests := true, laidLooks := .later }
def CondsSignedCardSaid : Prop := Claim7.holds Tryd.pinned (.plain (OpenSpec.ofChange condsSignedSpec)) condsSignedCard

/-- THE TIED CARD OF 'firewalllaw06.CondsBits'. -/
def condsBitsCard : Claim7 := { stood := { row := condsBitsRow, standIns := [], harness := (true, "55efa8dad91a1e7bb2da77b5f4264bdf7172c6854bb48f4c69247ca8e9e4dee6"), looks := false }, kinds := [], alts := [], laidByText := true, laidKinds := [.mapped, .mapped], laidTests := true, laidLooks := .later }
def CondsBitsCardSaid : Prop := Claim7.holds Tryd.pinned (.plain (OpenSpec.ofChange condsBitsSpec)) condsBitsCard

/-- THE TIED CARD OF 'firewalllaw02.InsnsCheck'. -/
def insnsCheckCard : Claim7 := { stood := { row := insnsCheckRow, standIns := [], harness := (true, "55efa8dad91a1e7bb2da77b5f4264bdf7172c6854bb48f4c69247ca8e9e4dee6"), looks := false }, kinds := [], alts := [], laidByText := true, laidKinds := [.mapped], laidTests := true, laidLooks := .later }
def InsnsCheckCardSaid : Prop := Claim7.holds Tryd.pinned (.plain (OpenSpec.ofChange insnsCheckSpec)) insnsCheckCard

/-- THE TIED CARD OF 'firewalllaw02.InsnsMany'. -/
def insnsManyCard : Claim7 := { stood := { row := insnsManyRow, standIns := [], harness := (true, "55efa8dad91a1e7bb2da77b5f4264bdf7172c6854bb48f4c69247ca8e9e4dee6"), looks := false }, kinds := [], alts := [], laidByText := true, laidKinds := [.mapped], laidTests := true, laidLooks := .later }
def InsnsManyCardSaid : Prop := Claim7.holds Tryd.pinned (.plain (OpenSpec.ofChange insnsManySpec)) insnsManyCard

/-- THE SECOND FORM's CARD OF 'firewalllaw06.CondsTell'. -/
def condsTellUptoCard : Claim7 := { stood := { row := condsTellUptoRow, standIns := [], harness := (true, "55efa8dad91a1e7bb2da77b5f4264bdf7172c6854bb48f4c69247ca8e9e4dee6"), looks := false }, kinds := [], alts := [], laidByText := true, laidKinds := [.mapped, .mapped], laidTests := true, laidLooks := .later }
def CondsTellUptoCardSaid : Prop := Claim7.holds Tryd.pinned (.plain (OpenSpec.upto condsTellSpec)) condsTellUptoCard

/-- THE SECOND FORM's CARD OF 'firewalllaw06.CondsOther'. -/
def condsOtherUptoCard : Claim7 := { stood := { row := condsOtherUptoRow, standIns := [], harness := (true, "55efa8dad91a1e7bb2da77b5f4264bdf7172c6854bb48f4c69247ca8e9e4dee6"), looks := false }, kinds := [], alts := [], laidByText := true, laidKinds := [.mapped, .mapped], laidTests := true, laidLooks := .later }
def CondsOtherUptoCardSaid : Prop := Claim7.holds Tryd.pinned (.plain (OpenSpec.upto condsOtherSpec)) condsOtherUptoCard

/-- THE SECOND FORM's CARD OF 'firewalllaw06.CondsSigned'. -/
def condsSignedUptoCard : Claim7 := { stood := { row := condsSignedUptoRow, standIns := [], harness := (true, "55efa8dad91a1e7bb2da77b5f4264bdf7172c6854bb48f4c69247ca8e9e4dee6"), looks := false }, kinds := [], alts := [], laidByText := true, laidKinds := [.mapped, .mapped], laidTests := true, laidLooks := .later }
def CondsSignedUptoCardSaid : Prop := Claim7.holds Tryd.pinned (.plain (OpenSpec.upto condsSignedSpec)) condsSignedUptoCard

/-- THE SECOND FORM's CARD OF 'firewalllaw06.CondsBits'. -/
def condsBitsUptoCard : Claim7 := { stood := { row := condsBitsUptoRow, standIns := [], harness := (true, "55efa8dad91a1e7bb2da77b5f4264bdf7172c6854bb48f4c69247ca8e9e4dee6"), looks := false }, kinds := [], alts := [], laidByText := true, laidKinds := [.mapped, .mapped], laidTests := true, laidLooks := .later }
def CondsBitsUptoCardSaid : Prop := Claim7.holds Tryd.pinned (.plain (OpenSpec.upto condsBitsSpec)) condsBitsUptoCard

/-- THE SECOND FORM's CARD OF 'firewalllaw02.InsnsCheck'. -/
def insnsCheckUptoCard : Claim7 := { stood := { row := insnsCheckUptoRow, standIns := [], harness := (true, "55efa8dad91a1e7bb2da77b5f4264bdf7172c6854bb48f4c69247ca8e9e4dee6"), looks := false }, kinds := [], alts := [], laidByText := true, laidKinds := [.mapped], laidTests := true, laidLooks := .later }
def InsnsCheckUptoCardSaid : Prop := Claim7.holds Tryd.pinned (.plain (OpenSpec.upto insnsCheckSpec)) insnsCheckUptoCard

/-- THE SECOND FORM's CARD OF 'firewalllaw02.InsnsMany'. -/
def insnsManyUptoCard : Claim7 := { stood := { row := insnsManyUptoRow, standIns := [], harness := (true, "55efa8dad91a1e7bb2da77b5f4264bdf7172c6854bb48f4c69247ca8e9e4dee6"), looks := false }, kinds := [], alts := [], laidByText := true, laidKinds := [.mapped], laidTests := true, laidLooks := .later }
def InsnsManyUptoCardSaid : Prop := Claim7.holds Tryd.pinned (.plain (OpenSpec.upto insnsManySpec)) insnsManyUptoCard
end Rows
end Go.Proofs.YtikhekbdliblnaaDoor
