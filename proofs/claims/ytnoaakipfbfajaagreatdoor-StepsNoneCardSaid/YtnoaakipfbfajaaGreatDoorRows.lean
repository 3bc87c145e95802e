/-
  NARROWER THAN 'FOR EVERY INPUT', by the rows' own cells (each row's printed sentence says how): StepsNone: laid.
  DERIVED. THE GIVEN ROWS OF THIS SEAT. 1 by the template 'for every input the law returns true; each argument reads behind the call as it read before'; 0 by the template 'total and deterministic' (their statements: YtnoaakipfbfajaaGreatDoorTotals.lean).
  GIVEN WITH THE SEED: the statements are not yours to turn. If you find one false, say at which input.
  Laid BY PROGRAM, IN A SANDBOX (cutbox-rows.mjs): the forced cells as the released guide's own fill.sh prints them over the translation 1373fd6ad6479cfb… (all of the seat's roots in one cut). By AI agents, Wed Nov 11 2026. No macro, syntax, notation, axiom, sorry.
-/
import Derived.Test.YtnoaakipfbfajaaGreatDoorChecked
import GoSem.Claim
import GoSem.ClaimJoined
import GoSem.ClaimMapViews
import Derived.JoinedTies
import Derived.KernelRfl
namespace Go.Proofs.YtnoaakipfbfajaaGreatDoor
/- THE CELL 'sum', in the pinned program and in every row, IS THE sha256 OF THE DUMP (.gsa) THAT YtnoaakipfbfajaaGreatDoorProg.lean LOADS. Nothing in Lean hashes anything: it is a label: what it is worth is what the hold of that sum in a sandbox is worth. -/
noncomputable def Tryz.pinned : Pinned := { name := "ytnoaakipfbfajaagreatdoor", sum := "1373fd6ad6479cfba6134fec6242068a817934c691acdd7aab44546ef0a8f6fb", checked := Tryz.checked }
namespace Rows
def none {H : Type} : Left H := { results := [], args := [] }

/- WHAT THE LISTED PACKAGE-LEVEL VARIABLES READ AS WHEN THE CALL BEGINS. Each datum BY PROGRAM (the guide's laid-datum.mjs) off the statement by which the dump's own 'gosem.cut.vars' lays the variable. In a bare row this is a premise. The card (YtnoaakipfbfajaaGreatDoorCards.lean) ties it to the program's text. -/
def laid_firewall_insns_sizes {H : Type} : DataW H := .map [(.int .u8 97, .lit (.int .i64 4)), (.int .u8 98, .lit (.int .i64 4)), (.int .u8 99, .lit (.int .i64 4)), (.int .u8 105, .lit (.int .i64 2)), (.int .u8 106, .lit (.int .i64 2)), (.int .u8 107, .lit (.int .i64 2)), (.int .u8 113, .lit (.int .i64 1)), (.int .u8 114, .lit (.int .i64 1)), (.int .u8 115, .lit (.int .i64 1)), (.int .u8 121, .lit (.int .i64 8)), (.int .u8 122, .lit (.int .i64 8)), (.int .u8 123, .lit (.int .i64 8))]
def laid_firewall_scalars_ops {H : Type} : DataW H := .iface "func table" (.map [(.int .u8 0, .agg [.iface "func" (.lit (.string [102, 105, 114, 101, 119, 97, 108, 108, 47, 116, 110, 117, 109, 115, 46, 65, 100, 100])), .iface "func" (.lit (.string [102, 105, 114, 101, 119, 97, 108, 108, 47, 115, 112, 97, 110, 115, 46, 65, 100, 100]))]), (.int .u8 16, .agg [.iface "func" (.lit (.string [102, 105, 114, 101, 119, 97, 108, 108, 47, 116, 110, 117, 109, 115, 46, 83, 117, 98])), .iface "func" (.lit (.string [102, 105, 114, 101, 119, 97, 108, 108, 47, 115, 112, 97, 110, 115, 46, 83, 117, 98]))]), (.int .u8 32, .agg [.iface "func" (.lit (.string [102, 105, 114, 101, 119, 97, 108, 108, 47, 116, 110, 117, 109, 115, 46, 77, 117, 108])), .iface "func" (.lit (.string [102, 105, 114, 101, 119, 97, 108, 108, 47, 115, 112, 97, 110, 115, 46, 77, 117, 108]))]), (.int .u8 48, .agg [.iface "func" (.lit (.string [102, 105, 114, 101, 119, 97, 108, 108, 47, 115, 99, 97, 108, 97, 114, 115, 46, 111, 112, 101, 110])), .iface "func" (.lit (.string [102, 105, 114, 101, 119, 97, 108, 108, 47, 115, 112, 97, 110, 115, 46, 68, 105, 118]))]), (.int .u8 64, .agg [.iface "func" (.lit (.string [102, 105, 114, 101, 119, 97, 108, 108, 47, 116, 110, 117, 109, 115, 46, 79, 114])), .iface "func" (.lit (.string [102, 105, 114, 101, 119, 97, 108, 108, 47, 115, 112, 97, 110, 115, 46, 79, 114]))]), (.int .u8 80, .agg [.iface "func" (.lit (.string [102, 105, 114, 101, 119, 97, 108, 108, 47, 116, 110, 117, 109, 115, 46, 65, 110, 100])), .iface "func" (.lit (.string [102, 105, 114, 101, 119, 97, 108, 108, 47, 115, 112, 97, 110, 115, 46, 65, 110, 100]))]), (.int .u8 144, .agg [.iface "func" (.lit (.string [102, 105, 114, 101, 119, 97, 108, 108, 47, 115, 99, 97, 108, 97, 114, 115, 46, 111, 112, 101, 110])), .iface "func" (.lit (.string [102, 105, 114, 101, 119, 97, 108, 108, 47, 115, 112, 97, 110, 115, 46, 77, 111, 100]))]), (.int .u8 160, .agg [.iface "func" (.lit (.string [102, 105, 114, 101, 119, 97, 108, 108, 47, 116, 110, 117, 109, 115, 46, 88, 111, 114])), .iface "func" (.lit (.string [102, 105, 114, 101, 119, 97, 108, 108, 47, 115, 112, 97, 110, 115, 46, 88, 111, 114]))])])
def laid_firewall_scalars_opposite {H : Type} : DataW H := .map [(.int .u8 16, .lit (.int .u8 80)), (.int .u8 32, .lit (.int .u8 176)), (.int .u8 48, .lit (.int .u8 160)), (.int .u8 80, .lit (.int .u8 16)), (.int .u8 96, .lit (.int .u8 208)), (.int .u8 112, .lit (.int .u8 192)), (.int .u8 160, .lit (.int .u8 48)), (.int .u8 176, .lit (.int .u8 32)), (.int .u8 192, .lit (.int .u8 112)), (.int .u8 208, .lit (.int .u8 96))]
def laid_firewall_steps_turned {H : Type} : DataW H := .map [(.int .u8 32, .lit (.int .u8 160)), (.int .u8 48, .lit (.int .u8 176)), (.int .u8 160, .lit (.int .u8 32)), (.int .u8 176, .lit (.int .u8 48))]

/-- 'firewalllaw21.StepsNone': WHATEVER THE INPUT: true; the input reads as it did. -/
def stepsNoneSpec : ChangeSpec := { name := "stepsNone", fn := fun _ => fun
  | [d1, d2] => { results := [.lit (.bool true)], args := [d1, d2] }
  | _ => none }
def stepsNoneRow : OpenClaim := { program := "ytnoaakipfbfajaagreatdoor", sum := "1373fd6ad6479cfba6134fec6242068a817934c691acdd7aab44546ef0a8f6fb", func := "firewall/firewalllaw21.StepsNone", spec := "stepsNone", unfollowed := true, recurses := true, named := ["firewall/scalars.ops", "firewall/insns.sizes", "firewall/steps.turned", "firewall/scalars.opposite"], apart := false, laid := [("firewall/insns.sizes", laid_firewall_insns_sizes), ("firewall/scalars.ops", laid_firewall_scalars_ops), ("firewall/scalars.opposite", laid_firewall_scalars_opposite), ("firewall/steps.turned", laid_firewall_steps_turned)] }
def StepsNoneSaid : Prop := stepsNoneRow.holds Tryz.pinned (OpenSpec.ofChange stepsNoneSpec)

/-- ITS FALSE NEIGHBOUR: 'it returns false'. Refute it at one input. -/
def stepsNoneWrong : ChangeSpec := { name := "stepsNone", fn := fun _ => fun
  | [d1, d2] => { results := [.lit (.bool false)], args := [d1, d2] }
  | _ => none }
def StepsNoneWrongFalsely : Prop := stepsNoneRow.holds Tryz.pinned (OpenSpec.ofChange stepsNoneWrong)

/- THE SECOND FORM. 'bulk': how many values and letters a reading holds, each counted each time it is reached (what is shared counts as often as it is met; a slice's spare places count too). A statement '..UptoSaid' is the law's where the arguments, and the package variables that the reading takes, are together of bulk at most 1048576: NARROWER than '..Said'. Prove '..Said' where nothing that the law and all that it calls make is longer than what came in: it says more and counts as full. Else prove '..UptoSaid'. A law counts once. -/
mutual
def uptoBulk {H : Type} : DataW H → Nat
  | .lit (.string bytes) => bytes.length + 1
  | .lit _ => 1
  | .nil => 1
  | .ptr d => uptoBulk d + 1
  | .slice elems spare => uptoBulkAll elems + uptoBulkAll spare + 1
  | .agg parts => uptoBulkAll parts + 1
  | .iface _ d => uptoBulk d + 1
  | .map entries => uptoBulkEntries entries + 1
  | .held _ => 1
def uptoBulkAll {H : Type} : List (DataW H) → Nat
  | [] => 0
  | d :: r => uptoBulk d + uptoBulkAll r
def uptoBulkEntries {H : Type} : List (Lit × DataW H) → Nat
  | [] => 0
  | x :: r => uptoBulkEntry x + uptoBulkEntries r
def uptoBulkEntry {H : Type} : Lit × DataW H → Nat
  | (.string bytes, d) => bytes.length + uptoBulk d + 1
  | (_, d) => uptoBulk d + 1
 end
def uptoSmall : (H : Type) → List (DataW H) → Bool := fun _ ds => decide (uptoBulkAll ds ≤ 1048576)
def OpenSpec.upto (s : _root_.Go.ChangeSpec) : _root_.Go.OpenSpec := { _root_.Go.OpenSpec.ofChange s with cond := some uptoSmall }

/-- 'firewalllaw21.StepsNone', WHERE WHAT IT READS IS OF BULK AT MOST 1048576: true; the input reads as it did. -/
def stepsNoneUptoRow : OpenClaim := { program := "ytnoaakipfbfajaagreatdoor", sum := "1373fd6ad6479cfba6134fec6242068a817934c691acdd7aab44546ef0a8f6fb", func := "firewall/firewalllaw21.StepsNone", spec := "stepsNone", unfollowed := true, recurses := true, named := ["firewall/scalars.ops", "firewall/insns.sizes", "firewall/steps.turned", "firewall/scalars.opposite"], apart := false, laid := [("firewall/insns.sizes", laid_firewall_insns_sizes), ("firewall/scalars.ops", laid_firewall_scalars_ops), ("firewall/scalars.opposite", laid_firewall_scalars_opposite), ("firewall/steps.turned", laid_firewall_steps_turned)], narrowed := true }
def StepsNoneUptoSaid : Prop := stepsNoneUptoRow.holds Tryz.pinned (OpenSpec.upto stepsNoneSpec)

end Rows
end Go.Proofs.YtnoaakipfbfajaaGreatDoor
