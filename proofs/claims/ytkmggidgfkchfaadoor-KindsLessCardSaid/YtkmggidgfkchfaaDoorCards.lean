/-
  DERIVED. GIVEN WITH THE SEED: THE CARDS: each row of YtkmggidgfkchfaaDoorRows.lean that lists a variable, with what it lists TIED to the program's text (the seventh form; the later family's looks); each row that meets fmt, with fmt's text TOLD by the authors' own Lean function (tested against real Go, not proved from fmt's source: count such statements apart). THE CARD IS WHAT COUNTS. Prove the row's statement (the work); the ties are given (YtkmggidgfkchfaaDoorTie.lean); close each card by the builder's one call (the guide's Derived/Test/ToyasCard.lean, 'card_holds'). Laid BY PROGRAM, IN A SANDBOX (cutbox-door.mjs). By AI agents, Wed Nov 11 2026. No macro, syntax, notation, axiom, sorry.
-/
import Derived.Test.YtkmggidgfkchfaaDoorRows
import GoSem.ClaimSeven
namespace Go.Proofs.YtkmggidgfkchfaaDoor
namespace Rows

/-- THE TIED CARD OF 'firewalllaw18.KindsAdd'. -/
def kindsAddCard : Claim7 := { stood := { row := kindsAddRow, standIns := [], harness := (true, "c18fde940045e90fe0227b64cf13485d222e06e8f64a58806c5f845fc32906ba"), looks := false }, kinds := [], alts := [], laidByText := true, laidKinds := [.funcs], laidTests := true, laidLooks := .later }
def KindsAddCardSaid : Prop := Claim7.holds Tryd.pinned (.plain (OpenSpec.ofChange kindsAddSpec)) kindsAddCard

/-- THE TIED CARD OF 'firewalllaw18.KindsIn'. -/
def kindsInCard : Claim7 := { stood := { row := kindsInRow, standIns := [], harness := (true, "c18fde940045e90fe0227b64cf13485d222e06e8f64a58806c5f845fc32906ba"), looks := false }, kinds := [], alts := [], laidByText := true, laidKinds := [.funcs], laidTests := true, laidLooks := .later }
def KindsInCardSaid : Prop := Claim7.holds Tryd.pinned (.plain (OpenSpec.ofChange kindsInSpec)) kindsInCard

/-- THE TIED CARD OF 'firewalllaw18.KindsLess'. -/
def kindsLessCard : Claim7 := { stood := { row := kindsLessRow, standIns := [], harness := (true, "c18fde940045e90fe0227b64cf13485d222e06e8f64a58806c5f845fc32906ba"), looks := false }, kinds := [], alts := [], laidByText := true, laidKinds := [.funcs], laidTests := true, laidLooks := .later }
def KindsLessCardSaid : Prop := Claim7.holds Tryd.pinned (.plain (OpenSpec.ofChange kindsLessSpec)) kindsLessCard

/-- THE TIED CARD OF 'firewalllaw17.ScalarsDo'. -/
def scalarsDoCard : Claim7 := { stood := { row := scalarsDoRow, standIns := [], harness := (true, "c18fde940045e90fe0227b64cf13485d222e06e8f64a58806c5f845fc32906ba"), looks := false }, kinds := [], alts := [], laidByText := true, laidKinds := [.funcs, .mapped], laidTests := true, laidLooks := .later }
def ScalarsDoCardSaid : Prop := Claim7.holds Tryd.pinned (.plain (OpenSpec.ofChange scalarsDoSpec)) scalarsDoCard

/-- THE TIED CARD OF 'firewalllaw17.ScalarsAssume'. -/
def scalarsAssumeCard : Claim7 := { stood := { row := scalarsAssumeRow, standIns := [], harness := (true, "c18fde940045e90fe0227b64cf13485d222e06e8f64a58806c5f845fc32906ba"), looks := false }, kinds := [], alts := [], laidByText := true, laidKinds := [.funcs, .mapped], laidTests := true, laidLooks := .later }
def ScalarsAssumeCardSaid : Prop := Claim7.holds Tryd.pinned (.plain (OpenSpec.ofChange scalarsAssumeSpec)) scalarsAssumeCard

/-- THE TIED CARD OF 'firewalllaw17.ScalarsExact'. -/
def scalarsExactCard : Claim7 := { stood := { row := scalarsExactRow, standIns := [], harness := (true, "c18fde940045e90fe0227b64cf13485d222e06e8f64a58806c5f845fc32906ba"), looks := false }, kinds := [], alts := [], laidByText := true, laidKinds := [.funcs, .mapped], laidTests := true, laidLooks := .later }
def ScalarsExactCardSaid : Prop := Claim7.holds Tryd.pinned (.plain (OpenSpec.ofChange scalarsExactSpec)) scalarsExactCard

/-- THE TIED CARD OF 'firewalllaw17.ScalarsTight'. -/
def scalarsTightCard : Claim7 := { stood := { row := scalarsTightRow, standIns := [], harness := (true, "c18fde940045e90fe0227b64cf13485d222e06e8f64a58806c5f845fc32906ba"), looks := false }, kinds := [], alts := [], laidByText := true, laidKinds := [.funcs, .mapped], laidTests := true, laidLooks := .later }
def ScalarsTightCardSaid : Prop := Claim7.holds Tryd.pinned (.plain (OpenSpec.ofChange scalarsTightSpec)) scalarsTightCard

/-- THE TIED CARD OF 'firewalllaw17.ScalarsRaw'. -/
def scalarsRawCard : Claim7 := { stood := { row := scalarsRawRow, standIns := [], harness := (true, "c18fde940045e90fe0227b64cf13485d222e06e8f64a58806c5f845fc32906ba"), looks := false }, kinds := [], alts := [], laidByText := true, laidKinds := [.funcs, .mapped], laidTests := true, laidLooks := .later }
def ScalarsRawCardSaid : Prop := Claim7.holds Tryd.pinned (.plain (OpenSpec.ofChange scalarsRawSpec)) scalarsRawCard

/-- THE SECOND FORM's CARD OF 'firewalllaw18.KindsAdd'. -/
def kindsAddUptoCard : Claim7 := { stood := { row := kindsAddUptoRow, standIns := [], harness := (true, "c18fde940045e90fe0227b64cf13485d222e06e8f64a58806c5f845fc32906ba"), looks := false }, kinds := [], alts := [], laidByText := true, laidKinds := [.funcs], laidTests := true, laidLooks := .later }
def KindsAddUptoCardSaid : Prop := Claim7.holds Tryd.pinned (.plain (OpenSpec.upto kindsAddSpec)) kindsAddUptoCard

/-- THE SECOND FORM's CARD OF 'firewalllaw18.KindsIn'. -/
def kindsInUptoCard : Claim7 := { stood := { row := kindsInUptoRow, standIns := [], harness := (true, "c18fde940045e90fe0227b64cf13485d222e06e8f64a58806c5f845fc32906ba"), looks := false }, kinds := [], alts := [], laidByText := true, laidKinds := [.funcs], laidTests := true, laidLooks := .later }
def KindsInUptoCardSaid : Prop := Claim7.holds Tryd.pinned (.plain (OpenSpec.upto kindsInSpec)) kindsInUptoCard

/-- THE SECOND FORM's CARD OF 'firewalllaw18.KindsLess'. -/
def kindsLessUptoCard : Claim7 := { stood := { row := kindsLessUptoRow, standIns := [], harness := (true, "c18fde940045e90fe0227b64cf13485d222e06e8f64a58806c5f845fc32906ba"), looks := false }, kinds := [], alts := [], laidByText := true, laidKinds := [.funcs], laidTests := true, laidLooks := .later }
def KindsLessUptoCardSaid : Prop := Claim7.holds Tryd.pinned (.plain (OpenSpec.upto kindsLessSpec)) kindsLessUptoCard

/-- THE SECOND FORM's CARD OF 'firewalllaw17.ScalarsDo'. -/
def scalarsDoUptoCard : Claim7 := { stood := { row := scalarsDoUptoRow, standIns := [], harness := (true, "c18fde940045e90fe0227b64cf13485d222e06e8f64a58806c5f845fc32906ba"), looks := false }, kinds := [], alts := [], laidByText := true, laidKinds := [.funcs, .mapped], laidTests := true, laidLooks := .later }
def ScalarsDoUptoCardSaid : Prop := Claim7.holds Tryd.pinned (.plain (OpenSpec.upto scalarsDoSpec)) scalarsDoUptoCard

/-- THE SECOND FORM's CARD OF 'firewalllaw17.ScalarsAssume'. -/
def scalarsAssumeUptoCard : Claim7 := { stood := { row := scalarsAssumeUptoRow, standIns := [], harness := (true, "c18fde940045e90fe0227b64cf13485d222e06e8f64a58806c5f845fc32906ba"), looks := false }, kinds := [], alts := [], laidByText := true, laidKinds := [.funcs, .mapped], laidTests := true, laidLooks := .later }
def ScalarsAssumeUptoCardSaid : Prop := Claim7.holds Tryd.pinned (.plain (OpenSpec.upto scalarsAssumeSpec)) scalarsAssumeUptoCard

/-- THE SECOND FORM's CARD OF 'firewalllaw17.ScalarsExact'. -/
def scalarsExactUptoCard : Claim7 := { stood := { row := scalarsExactUptoRow, standIns := [], harness := (true, "c18fde940045e90fe0227b64cf13485d222e06e8f64a58806c5f845fc32906ba"), looks := false }, kinds := [], alts := [], laidByText := true, laidKinds := [.funcs, .mapped], laidTests := true, laidLooks := .later }
def ScalarsExactUptoCardSaid : Prop := Claim7.holds Tryd.pinned (.plain (OpenSpec.upto scalarsExactSpec)) scalarsExactUptoCard

/-- THE SECOND FORM's CARD OF 'firewalllaw17.ScalarsTight'. -/
def scalarsTightUptoCard : Claim7 := { stood := { row := scalarsTightUptoRow, standIns := [], harness := (true, "c18fde940045e90fe0227b64cf13485d222e06e8f64a58806c5f845fc32906ba"), looks := false }, kinds := [], alts := [], laidByText := true, laidKinds := [.funcs, .mapped], laidTests := true, laidLooks := .later }
def ScalarsTightUptoCardSaid : Prop := Claim7.holds Tryd.pinned (.plain (OpenSpec.upto scalarsTightSpec)) scalarsTightUptoCard

/-- THE SECOND FORM's CARD OF 'firewalllaw17.ScalarsRaw'. -/
def scalarsRawUptoCard : Claim7 := { stood := { row := scalarsRawUptoRow, standIns := [], harness := (true, "c18fde940045e90fe0227b64cf13485d222e06e8f64a58806c5f845fc32906ba"), looks := false }, kinds := [], alts := [], laidByText := true, laidKinds := [.funcs, .mapped], laidTests := true, laidLooks := .later }
def ScalarsRawUptoCardSaid : Prop := Claim7.holds Tryd.pinned (.plain (OpenSpec.upto scalarsRawSpec)) scalarsRawUptoCard
end Rows
end Go.Proofs.YtkmggidgfkchfaaDoor
