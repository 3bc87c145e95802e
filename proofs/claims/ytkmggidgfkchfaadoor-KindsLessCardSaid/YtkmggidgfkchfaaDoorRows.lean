/-
  NARROWER THAN 'FOR EVERY INPUT', by the rows' own cells (each row's printed sentence says how): KindsAdd: laid · KindsIn: laid · KindsLess: laid · ScalarsDo: laid · ScalarsAssume: laid · ScalarsExact: laid · ScalarsTight: laid · ScalarsRaw: laid.
  DERIVED. THE GIVEN ROWS OF THIS SEAT. 8 by the template 'for every input the law returns true; each argument reads behind the call as it read before'; 0 by the template 'total and deterministic' (their statements: YtkmggidgfkchfaaDoorTotals.lean).
  GIVEN WITH THE SEED: the statements are not yours to turn. If you find one false, say at which input.
  Laid BY PROGRAM, IN A SANDBOX (cutbox-rows.mjs): the forced cells as the released guide's own fill.sh prints them over the translation 63e65ace24cfefd8… (all of the seat's roots in one cut). By AI agents, Wed Nov 11 2026. No macro, syntax, notation, axiom, sorry.
-/
import Derived.Test.YtkmggidgfkchfaaDoorChecked
import GoSem.Claim
import GoSem.ClaimJoined
import GoSem.ClaimMapViews
import Derived.JoinedTies
import Derived.KernelRfl
namespace Go.Proofs.YtkmggidgfkchfaaDoor
/- THE CELL 'sum', in the pinned program and in every row, IS THE sha256 OF THE DUMP (.gsa) THAT YtkmggidgfkchfaaDoorProg.lean LOADS. Nothing in Lean hashes anything: it is a label: what it is worth is what the hold of that sum in a sandbox is worth. -/
noncomputable def Tryd.pinned : Pinned := { name := "ytkmggidgfkchfaadoor", sum := "63e65ace24cfefd8a64f6cda58d69231626495c448848633f8ef4ec871c58da5", checked := Tryd.checked }
namespace Rows
def none {H : Type} : Left H := { results := [], args := [] }

/- WHAT THE LISTED PACKAGE-LEVEL VARIABLES READ AS WHEN THE CALL BEGINS. Each datum BY PROGRAM (the guide's laid-datum.mjs) off the statement by which the dump's own 'gosem.cut.vars' lays the variable. In a bare row this is a premise. The card (YtkmggidgfkchfaaDoorCards.lean) ties it to the program's text. -/
def laid_firewall_scalars_ops {H : Type} : DataW H := .iface "func table" (.map [(.int .u8 0, .agg [.iface "func" (.lit (.string [102, 105, 114, 101, 119, 97, 108, 108, 47, 116, 110, 117, 109, 115, 46, 65, 100, 100])), .iface "func" (.lit (.string [102, 105, 114, 101, 119, 97, 108, 108, 47, 115, 112, 97, 110, 115, 46, 65, 100, 100]))]), (.int .u8 16, .agg [.iface "func" (.lit (.string [102, 105, 114, 101, 119, 97, 108, 108, 47, 116, 110, 117, 109, 115, 46, 83, 117, 98])), .iface "func" (.lit (.string [102, 105, 114, 101, 119, 97, 108, 108, 47, 115, 112, 97, 110, 115, 46, 83, 117, 98]))]), (.int .u8 32, .agg [.iface "func" (.lit (.string [102, 105, 114, 101, 119, 97, 108, 108, 47, 116, 110, 117, 109, 115, 46, 77, 117, 108])), .iface "func" (.lit (.string [102, 105, 114, 101, 119, 97, 108, 108, 47, 115, 112, 97, 110, 115, 46, 77, 117, 108]))]), (.int .u8 48, .agg [.iface "func" (.lit (.string [102, 105, 114, 101, 119, 97, 108, 108, 47, 115, 99, 97, 108, 97, 114, 115, 46, 111, 112, 101, 110])), .iface "func" (.lit (.string [102, 105, 114, 101, 119, 97, 108, 108, 47, 115, 112, 97, 110, 115, 46, 68, 105, 118]))]), (.int .u8 64, .agg [.iface "func" (.lit (.string [102, 105, 114, 101, 119, 97, 108, 108, 47, 116, 110, 117, 109, 115, 46, 79, 114])), .iface "func" (.lit (.string [102, 105, 114, 101, 119, 97, 108, 108, 47, 115, 112, 97, 110, 115, 46, 79, 114]))]), (.int .u8 80, .agg [.iface "func" (.lit (.string [102, 105, 114, 101, 119, 97, 108, 108, 47, 116, 110, 117, 109, 115, 46, 65, 110, 100])), .iface "func" (.lit (.string [102, 105, 114, 101, 119, 97, 108, 108, 47, 115, 112, 97, 110, 115, 46, 65, 110, 100]))]), (.int .u8 144, .agg [.iface "func" (.lit (.string [102, 105, 114, 101, 119, 97, 108, 108, 47, 115, 99, 97, 108, 97, 114, 115, 46, 111, 112, 101, 110])), .iface "func" (.lit (.string [102, 105, 114, 101, 119, 97, 108, 108, 47, 115, 112, 97, 110, 115, 46, 77, 111, 100]))]), (.int .u8 160, .agg [.iface "func" (.lit (.string [102, 105, 114, 101, 119, 97, 108, 108, 47, 116, 110, 117, 109, 115, 46, 88, 111, 114])), .iface "func" (.lit (.string [102, 105, 114, 101, 119, 97, 108, 108, 47, 115, 112, 97, 110, 115, 46, 88, 111, 114]))])])
def laid_firewall_scalars_opposite {H : Type} : DataW H := .map [(.int .u8 16, .lit (.int .u8 80)), (.int .u8 32, .lit (.int .u8 176)), (.int .u8 48, .lit (.int .u8 160)), (.int .u8 80, .lit (.int .u8 16)), (.int .u8 96, .lit (.int .u8 208)), (.int .u8 112, .lit (.int .u8 192)), (.int .u8 160, .lit (.int .u8 48)), (.int .u8 176, .lit (.int .u8 32)), (.int .u8 192, .lit (.int .u8 112)), (.int .u8 208, .lit (.int .u8 96))]

/-- 'firewalllaw18.KindsAdd': WHATEVER THE INPUT: true; the input reads as it did. -/
def kindsAddSpec : ChangeSpec := { name := "kindsAdd", fn := fun _ => fun
  | [d1, d2, d3] => { results := [.lit (.bool true)], args := [d1, d2, d3] }
  | _ => none }
def kindsAddRow : OpenClaim := { program := "ytkmggidgfkchfaadoor", sum := "63e65ace24cfefd8a64f6cda58d69231626495c448848633f8ef4ec871c58da5", func := "firewall/firewalllaw18.KindsAdd", spec := "kindsAdd", unfollowed := true, recurses := true, named := ["firewall/scalars.ops"], apart := false, laid := [("firewall/scalars.ops", laid_firewall_scalars_ops)] }
def KindsAddSaid : Prop := kindsAddRow.holds Tryd.pinned (OpenSpec.ofChange kindsAddSpec)

/-- ITS FALSE NEIGHBOUR: 'it returns false'. Refute it at one input. -/
def kindsAddWrong : ChangeSpec := { name := "kindsAdd", fn := fun _ => fun
  | [d1, d2, d3] => { results := [.lit (.bool false)], args := [d1, d2, d3] }
  | _ => none }
def KindsAddWrongFalsely : Prop := kindsAddRow.holds Tryd.pinned (OpenSpec.ofChange kindsAddWrong)

/-- 'firewalllaw18.KindsIn': WHATEVER THE INPUT: true; the input reads as it did. -/
def kindsInSpec : ChangeSpec := { name := "kindsIn", fn := fun _ => fun
  | [d1, d2] => { results := [.lit (.bool true)], args := [d1, d2] }
  | _ => none }
def kindsInRow : OpenClaim := { program := "ytkmggidgfkchfaadoor", sum := "63e65ace24cfefd8a64f6cda58d69231626495c448848633f8ef4ec871c58da5", func := "firewall/firewalllaw18.KindsIn", spec := "kindsIn", unfollowed := true, recurses := true, named := ["firewall/scalars.ops"], apart := false, laid := [("firewall/scalars.ops", laid_firewall_scalars_ops)] }
def KindsInSaid : Prop := kindsInRow.holds Tryd.pinned (OpenSpec.ofChange kindsInSpec)

/-- ITS FALSE NEIGHBOUR: 'it returns false'. Refute it at one input. -/
def kindsInWrong : ChangeSpec := { name := "kindsIn", fn := fun _ => fun
  | [d1, d2] => { results := [.lit (.bool false)], args := [d1, d2] }
  | _ => none }
def KindsInWrongFalsely : Prop := kindsInRow.holds Tryd.pinned (OpenSpec.ofChange kindsInWrong)

/-- 'firewalllaw18.KindsLess': WHATEVER THE INPUT: true; the input reads as it did. -/
def kindsLessSpec : ChangeSpec := { name := "kindsLess", fn := fun _ => fun
  | [d1, d2] => { results := [.lit (.bool true)], args := [d1, d2] }
  | _ => none }
def kindsLessRow : OpenClaim := { program := "ytkmggidgfkchfaadoor", sum := "63e65ace24cfefd8a64f6cda58d69231626495c448848633f8ef4ec871c58da5", func := "firewall/firewalllaw18.KindsLess", spec := "kindsLess", unfollowed := true, recurses := true, named := ["firewall/scalars.ops"], apart := false, laid := [("firewall/scalars.ops", laid_firewall_scalars_ops)] }
def KindsLessSaid : Prop := kindsLessRow.holds Tryd.pinned (OpenSpec.ofChange kindsLessSpec)

/-- ITS FALSE NEIGHBOUR: 'it returns false'. Refute it at one input. -/
def kindsLessWrong : ChangeSpec := { name := "kindsLess", fn := fun _ => fun
  | [d1, d2] => { results := [.lit (.bool false)], args := [d1, d2] }
  | _ => none }
def KindsLessWrongFalsely : Prop := kindsLessRow.holds Tryd.pinned (OpenSpec.ofChange kindsLessWrong)

/-- 'firewalllaw17.ScalarsDo': WHATEVER THE INPUT: true; the input reads as it did. -/
def scalarsDoSpec : ChangeSpec := { name := "scalarsDo", fn := fun _ => fun
  | [d1, d2, d3] => { results := [.lit (.bool true)], args := [d1, d2, d3] }
  | _ => none }
def scalarsDoRow : OpenClaim := { program := "ytkmggidgfkchfaadoor", sum := "63e65ace24cfefd8a64f6cda58d69231626495c448848633f8ef4ec871c58da5", func := "firewall/firewalllaw17.ScalarsDo", spec := "scalarsDo", unfollowed := true, recurses := true, named := ["firewall/scalars.ops", "firewall/scalars.opposite"], apart := false, laid := [("firewall/scalars.ops", laid_firewall_scalars_ops), ("firewall/scalars.opposite", laid_firewall_scalars_opposite)] }
def ScalarsDoSaid : Prop := scalarsDoRow.holds Tryd.pinned (OpenSpec.ofChange scalarsDoSpec)

/-- ITS FALSE NEIGHBOUR: 'it returns false'. Refute it at one input. -/
def scalarsDoWrong : ChangeSpec := { name := "scalarsDo", fn := fun _ => fun
  | [d1, d2, d3] => { results := [.lit (.bool false)], args := [d1, d2, d3] }
  | _ => none }
def ScalarsDoWrongFalsely : Prop := scalarsDoRow.holds Tryd.pinned (OpenSpec.ofChange scalarsDoWrong)

/-- 'firewalllaw17.ScalarsAssume': WHATEVER THE INPUT: true; the input reads as it did. -/
def scalarsAssumeSpec : ChangeSpec := { name := "scalarsAssume", fn := fun _ => fun
  | [d1, d2, d3] => { results := [.lit (.bool true)], args := [d1, d2, d3] }
  | _ => none }
def scalarsAssumeRow : OpenClaim := { program := "ytkmggidgfkchfaadoor", sum := "63e65ace24cfefd8a64f6cda58d69231626495c448848633f8ef4ec871c58da5", func := "firewall/firewalllaw17.ScalarsAssume", spec := "scalarsAssume", unfollowed := true, recurses := true, named := ["firewall/scalars.opposite", "firewall/scalars.ops"], apart := false, laid := [("firewall/scalars.ops", laid_firewall_scalars_ops), ("firewall/scalars.opposite", laid_firewall_scalars_opposite)] }
def ScalarsAssumeSaid : Prop := scalarsAssumeRow.holds Tryd.pinned (OpenSpec.ofChange scalarsAssumeSpec)

/-- ITS FALSE NEIGHBOUR: 'it returns false'. Refute it at one input. -/
def scalarsAssumeWrong : ChangeSpec := { name := "scalarsAssume", fn := fun _ => fun
  | [d1, d2, d3] => { results := [.lit (.bool false)], args := [d1, d2, d3] }
  | _ => none }
def ScalarsAssumeWrongFalsely : Prop := scalarsAssumeRow.holds Tryd.pinned (OpenSpec.ofChange scalarsAssumeWrong)

/-- 'firewalllaw17.ScalarsExact': WHATEVER THE INPUT: true; the input reads as it did. -/
def scalarsExactSpec : ChangeSpec := { name := "scalarsExact", fn := fun _ => fun
  | [d1, d2] => { results := [.lit (.bool true)], args := [d1, d2] }
  | _ => none }
def scalarsExactRow : OpenClaim := { program := "ytkmggidgfkchfaadoor", sum := "63e65ace24cfefd8a64f6cda58d69231626495c448848633f8ef4ec871c58da5", func := "firewall/firewalllaw17.ScalarsExact", spec := "scalarsExact", unfollowed := true, recurses := true, named := ["firewall/scalars.ops", "firewall/scalars.opposite"], apart := false, laid := [("firewall/scalars.ops", laid_firewall_scalars_ops), ("firewall/scalars.opposite", laid_firewall_scalars_opposite)] }
def ScalarsExactSaid : Prop := scalarsExactRow.holds Tryd.pinned (OpenSpec.ofChange scalarsExactSpec)

/-- ITS FALSE NEIGHBOUR: 'it returns false'. Refute it at one input. -/
def scalarsExactWrong : ChangeSpec := { name := "scalarsExact", fn := fun _ => fun
  | [d1, d2] => { results := [.lit (.bool false)], args := [d1, d2] }
  | _ => none }
def ScalarsExactWrongFalsely : Prop := scalarsExactRow.holds Tryd.pinned (OpenSpec.ofChange scalarsExactWrong)

/-- 'firewalllaw17.ScalarsTight': WHATEVER THE INPUT: true; the input reads as it did. -/
def scalarsTightSpec : ChangeSpec := { name := "scalarsTight", fn := fun _ => fun
  | [d1, d2, d3] => { results := [.lit (.bool true)], args := [d1, d2, d3] }
  | _ => none }
def scalarsTightRow : OpenClaim := { program := "ytkmggidgfkchfaadoor", sum := "63e65ace24cfefd8a64f6cda58d69231626495c448848633f8ef4ec871c58da5", func := "firewall/firewalllaw17.ScalarsTight", spec := "scalarsTight", unfollowed := true, recurses := true, named := ["firewall/scalars.opposite", "firewall/scalars.ops"], apart := false, laid := [("firewall/scalars.ops", laid_firewall_scalars_ops), ("firewall/scalars.opposite", laid_firewall_scalars_opposite)] }
def ScalarsTightSaid : Prop := scalarsTightRow.holds Tryd.pinned (OpenSpec.ofChange scalarsTightSpec)

/-- ITS FALSE NEIGHBOUR: 'it returns false'. Refute it at one input. -/
def scalarsTightWrong : ChangeSpec := { name := "scalarsTight", fn := fun _ => fun
  | [d1, d2, d3] => { results := [.lit (.bool false)], args := [d1, d2, d3] }
  | _ => none }
def ScalarsTightWrongFalsely : Prop := scalarsTightRow.holds Tryd.pinned (OpenSpec.ofChange scalarsTightWrong)

/-- 'firewalllaw17.ScalarsRaw': WHATEVER THE INPUT: true; the input reads as it did. -/
def scalarsRawSpec : ChangeSpec := { name := "scalarsRaw", fn := fun _ => fun
  | [d1, d2, d3] => { results := [.lit (.bool true)], args := [d1, d2, d3] }
  | _ => none }
def scalarsRawRow : OpenClaim := { program := "ytkmggidgfkchfaadoor", sum := "63e65ace24cfefd8a64f6cda58d69231626495c448848633f8ef4ec871c58da5", func := "firewall/firewalllaw17.ScalarsRaw", spec := "scalarsRaw", unfollowed := true, recurses := true, named := ["firewall/scalars.ops", "firewall/scalars.opposite"], apart := false, laid := [("firewall/scalars.ops", laid_firewall_scalars_ops), ("firewall/scalars.opposite", laid_firewall_scalars_opposite)] }
def ScalarsRawSaid : Prop := scalarsRawRow.holds Tryd.pinned (OpenSpec.ofChange scalarsRawSpec)

/-- ITS FALSE NEIGHBOUR: 'it returns false'. Refute it at one input. -/
def scalarsRawWrong : ChangeSpec := { name := "scalarsRaw", fn := fun _ => fun
  | [d1, d2, d3] => { results := [.lit (.bool false)], args := [d1, d2, d3] }
  | _ => none }
def ScalarsRawWrongFalsely : Prop := scalarsRawRow.holds Tryd.pinned (OpenSpec.ofChange scalarsRawWrong)

/- THE SECOND FORM. 'bulk': how many values and letters a reading holds, each counted each time it is reached (what is shared counts as often as it is met; a slice's spare places count too). A statement '..UptoSaid' is the law's where the arguments, and the package variables that the reading takes, are together of bulk at most 1048576: NARROWER than '..Said'. Prove '..Said' where nothing that the law and all that it calls make is longer than what came in: it says more and counts as full. Else prove '..UptoSaid'. A law counts once. -/
mutual
def uptoBulk {H : Type} : DataW H → Nat
  | .lit (.string bytes) => bytes.length + 1
  | .lit _ => 1
  | .nil => 1
  | .ptr d => uptoBulk d + 1
  | .slice elems spare => uptoBulkAll elems + uptoBulkAll spare + 1
  | .agg parts => uptoBulkAll parts + 1
  | .iface _ d => uptoBulk d + 1
  | .map entries => uptoBulkEntries entries + 1
  | .held _ => 1
def uptoBulkAll {H : Type} : List (DataW H) → Nat
  | [] => 0
  | d :: r => uptoBulk d + uptoBulkAll r
def uptoBulkEntries {H : Type} : List (Lit × DataW H) → Nat
  | [] => 0
  | x :: r => uptoBulkEntry x + uptoBulkEntries r
def uptoBulkEntry {H : Type} : Lit × DataW H → Nat
  | (.string bytes, d) => bytes.length + uptoBulk d + 1
  | (_, d) => uptoBulk d + 1
 end
def uptoSmall : (H : Type) → List (DataW H) → Bool := fun _ ds => decide (uptoBulkAll ds ≤ 1048576)
def OpenSpec.upto (s : _root_.Go.ChangeSpec) : _root_.Go.OpenSpec := { _root_.Go.OpenSpec.ofChange s with cond := some uptoSmall }

/-- 'firewalllaw18.KindsAdd', WHERE WHAT IT READS IS OF BULK AT MOST 1048576: true; the input reads as it did. -/
def kindsAddUptoRow : OpenClaim := { program := "ytkmggidgfkchfaadoor", sum := "63e65ace24cfefd8a64f6cda58d69231626495c448848633f8ef4ec871c58da5", func := "firewall/firewalllaw18.KindsAdd", spec := "kindsAdd", unfollowed := true, recurses := true, named := ["firewall/scalars.ops"], apart := false, laid := [("firewall/scalars.ops", laid_firewall_scalars_ops)], narrowed := true }
def KindsAddUptoSaid : Prop := kindsAddUptoRow.holds Tryd.pinned (OpenSpec.upto kindsAddSpec)

/-- 'firewalllaw18.KindsIn', WHERE WHAT IT READS IS OF BULK AT MOST 1048576: true; the input reads as it did. -/
def kindsInUptoRow : OpenClaim := { program := "ytkmggidgfkchfaadoor", sum := "63e65ace24cfefd8a64f6cda58d69231626495c448848633f8ef4ec871c58da5", func := "firewall/firewalllaw18.KindsIn", spec := "kindsIn", unfollowed := true, recurses := true, named := ["firewall/scalars.ops"], apart := false, laid := [("firewall/scalars.ops", laid_firewall_scalars_ops)], narrowed := true }
def KindsInUptoSaid : Prop := kindsInUptoRow.holds Tryd.pinned (OpenSpec.upto kindsInSpec)

/-- 'firewalllaw18.KindsLess', WHERE WHAT IT READS IS OF BULK AT MOST 1048576: true; the input reads as it did. -/
def kindsLessUptoRow : OpenClaim := { program := "ytkmggidgfkchfaadoor", sum := "63e65ace24cfefd8a64f6cda58d69231626495c448848633f8ef4ec871c58da5", func := "firewall/firewalllaw18.KindsLess", spec := "kindsLess", unfollowed := true, recurses := true, named := ["firewall/scalars.ops"], apart := false, laid := [("firewall/scalars.ops", laid_firewall_scalars_ops)], narrowed := true }
def KindsLessUptoSaid : Prop := kindsLessUptoRow.holds Tryd.pinned (OpenSpec.upto kindsLessSpec)

/-- 'firewalllaw17.ScalarsDo', WHERE WHAT IT READS IS OF BULK AT MOST 1048576: true; the input reads as it did. -/
def scalarsDoUptoRow : OpenClaim := { program := "ytkmggidgfkchfaadoor", sum := "63e65ace24cfefd8a64f6cda58d69231626495c448848633f8ef4ec871c58da5", func := "firewall/firewalllaw17.ScalarsDo", spec := "scalarsDo", unfollowed := true, recurses := true, named := ["firewall/scalars.ops", "firewall/scalars.opposite"], apart := false, laid := [("firewall/scalars.ops", laid_firewall_scalars_ops), ("firewall/scalars.opposite", laid_firewall_scalars_opposite)], narrowed := true }
def ScalarsDoUptoSaid : Prop := scalarsDoUptoRow.holds Tryd.pinned (OpenSpec.upto scalarsDoSpec)

/-- 'firewalllaw17.ScalarsAssume', WHERE WHAT IT READS IS OF BULK AT MOST 1048576: true; the input reads as it did. -/
def scalarsAssumeUptoRow : OpenClaim := { program := "ytkmggidgfkchfaadoor", sum := "63e65ace24cfefd8a64f6cda58d69231626495c448848633f8ef4ec871c58da5", func := "firewall/firewalllaw17.ScalarsAssume", spec := "scalarsAssume", unfollowed := true, recurses := true, named := ["firewall/scalars.opposite", "firewall/scalars.ops"], apart := false, laid := [("firewall/scalars.ops", laid_firewall_scalars_ops), ("firewall/scalars.opposite", laid_firewall_scalars_opposite)], narrowed := true }
def ScalarsAssumeUptoSaid : Prop := scalarsAssumeUptoRow.holds Tryd.pinned (OpenSpec.upto scalarsAssumeSpec)

/-- 'firewalllaw17.ScalarsExact', WHERE WHAT IT READS IS OF BULK AT MOST 1048576: true; the input reads as it did. -/
def scalarsExactUptoRow : OpenClaim := { program := "ytkmggidgfkchfaadoor", sum := "63e65ace24cfefd8a64f6cda58d69231626495c448848633f8ef4ec871c58da5", func := "firewall/firewalllaw17.ScalarsExact", spec := "scalarsExact", unfollowed := true, recurses := true, named := ["firewall/scalars.ops", "firewall/scalars.opposite"], apart := false, laid := [("firewall/scalars.ops", laid_firewall_scalars_ops), ("firewall/scalars.opposite", laid_firewall_scalars_opposite)], narrowed := true }
def ScalarsExactUptoSaid : Prop := scalarsExactUptoRow.holds Tryd.pinned (OpenSpec.upto scalarsExactSpec)

/-- 'firewalllaw17.ScalarsTight', WHERE WHAT IT READS IS OF BULK AT MOST 1048576: true; the input reads as it did. -/
def scalarsTightUptoRow : OpenClaim := { program := "ytkmggidgfkchfaadoor", sum := "63e65ace24cfefd8a64f6cda58d69231626495c448848633f8ef4ec871c58da5", func := "firewall/firewalllaw17.ScalarsTight", spec := "scalarsTight", unfollowed := true, recurses := true, named := ["firewall/scalars.opposite", "firewall/scalars.ops"], apart := false, laid := [("firewall/scalars.ops", laid_firewall_scalars_ops), ("firewall/scalars.opposite", laid_firewall_scalars_opposite)], narrowed := true }
def ScalarsTightUptoSaid : Prop := scalarsTightUptoRow.holds Tryd.pinned (OpenSpec.upto scalarsTightSpec)

/-- 'firewalllaw17.ScalarsRaw', WHERE WHAT IT READS IS OF BULK AT MOST 1048576: true; the input reads as it did. -/
def scalarsRawUptoRow : OpenClaim := { program := "ytkmggidgfkchfaadoor", sum := "63e65ace24cfefd8a64f6cda58d69231626495c448848633f8ef4ec871c58da5", func := "firewall/firewalllaw17.ScalarsRaw", spec := "scalarsRaw", unfollowed := true, recurses := true, named := ["firewall/scalars.ops", "firewall/scalars.opposite"], apart := false, laid := [("firewall/scalars.ops", laid_firewall_scalars_ops), ("firewall/scalars.opposite", laid_firewall_scalars_opposite)], narrowed := true }
def ScalarsRawUptoSaid : Prop := scalarsRawUptoRow.holds Tryd.pinned (OpenSpec.upto scalarsRawSpec)

end Rows
end Go.Proofs.YtkmggidgfkchfaaDoor
