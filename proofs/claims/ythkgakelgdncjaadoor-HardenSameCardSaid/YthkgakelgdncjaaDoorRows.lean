/-
  NARROWER THAN 'FOR EVERY INPUT', by the rows' own cells (each row's printed sentence says how): HardenTell: laid · HardenSame: laid · HardenFences: laid.
  DERIVED. THE GIVEN ROWS OF THIS SEAT. 3 by the template 'for every input the law returns true; each argument reads behind the call as it read before'; 0 by the template 'total and deterministic' (their statements: YthkgakelgdncjaaDoorTotals.lean).
  GIVEN WITH THE SEED: the statements are not yours to turn. If you find one false, say at which input.
  Laid BY PROGRAM, IN A SANDBOX (cutbox-rows.mjs): the forced cells as the released guide's own fill.sh prints them over the translation 26ab894a2b0bb153… (all of the seat's roots in one cut). By AI agents, Wed Nov 11 2026. No macro, syntax, notation, axiom, sorry.
-/
import Derived.Test.YthkgakelgdncjaaDoorChecked
import GoSem.Claim
import GoSem.ClaimJoined
import GoSem.ClaimMapViews
import Derived.JoinedTies
import Derived.KernelRfl
namespace Go.Proofs.YthkgakelgdncjaaDoor
/- THE CELL 'sum', in the pinned program and in every row, IS THE sha256 OF THE DUMP (.gsa) THAT YthkgakelgdncjaaDoorProg.lean LOADS. Nothing in Lean hashes anything: it is a label: what it is worth is what the hold of that sum in a sandbox is worth. -/
noncomputable def Tryd.pinned : Pinned := { name := "ythkgakelgdncjaadoor", sum := "26ab894a2b0bb153c65dd79fa4af0c724c833e6d016cc92c36b10ba1029c6e6b", checked := Tryd.checked }
namespace Rows
def none {H : Type} : Left H := { results := [], args := [] }

/- WHAT THE LISTED PACKAGE-LEVEL VARIABLES READ AS WHEN THE CALL BEGINS. Each datum BY PROGRAM (the guide's laid-datum.mjs) off the statement by which the dump's own 'gosem.cut.vars' lays the variable. In a bare row this is a premise. The card (YthkgakelgdncjaaDoorCards.lean) ties it to the program's text. -/
def laid_firewall_harden_barrier {H : Type} : DataW H := .agg [.lit (.int .u8 194), .lit (.int .u8 0), .lit (.int .u8 0), .lit (.int .i16 0), .lit (.int .i32 0)]

/-- 'firewalllaw23.HardenTell': WHATEVER THE INPUT: true; the input reads as it did. -/
def hardenTellSpec : ChangeSpec := { name := "hardenTell", fn := fun _ => fun
  | [d1, d2] => { results := [.lit (.bool true)], args := [d1, d2] }
  | _ => none }
def hardenTellRow : OpenClaim := { program := "ythkgakelgdncjaadoor", sum := "26ab894a2b0bb153c65dd79fa4af0c724c833e6d016cc92c36b10ba1029c6e6b", func := "firewall/firewalllaw23.HardenTell", spec := "hardenTell", unfollowed := true, recurses := true, named := ["firewall/harden.barrier"], apart := false, laid := [("firewall/harden.barrier", laid_firewall_harden_barrier)] }
def HardenTellSaid : Prop := hardenTellRow.holds Tryd.pinned (OpenSpec.ofChange hardenTellSpec)

/-- ITS FALSE NEIGHBOUR: 'it returns false'. Refute it at one input. -/
def hardenTellWrong : ChangeSpec := { name := "hardenTell", fn := fun _ => fun
  | [d1, d2] => { results := [.lit (.bool false)], args := [d1, d2] }
  | _ => none }
def HardenTellWrongFalsely : Prop := hardenTellRow.holds Tryd.pinned (OpenSpec.ofChange hardenTellWrong)

/-- 'firewalllaw23.HardenSame': WHATEVER THE INPUT: true; the input reads as it did. -/
def hardenSameSpec : ChangeSpec := { name := "hardenSame", fn := fun _ => fun
  | [d1, d2, d3] => { results := [.lit (.bool true)], args := [d1, d2, d3] }
  | _ => none }
def hardenSameRow : OpenClaim := { program := "ythkgakelgdncjaadoor", sum := "26ab894a2b0bb153c65dd79fa4af0c724c833e6d016cc92c36b10ba1029c6e6b", func := "firewall/firewalllaw23.HardenSame", spec := "hardenSame", unfollowed := true, recurses := true, named := ["firewall/harden.barrier"], apart := false, laid := [("firewall/harden.barrier", laid_firewall_harden_barrier)] }
def HardenSameSaid : Prop := hardenSameRow.holds Tryd.pinned (OpenSpec.ofChange hardenSameSpec)

/-- ITS FALSE NEIGHBOUR: 'it returns false'. Refute it at one input. -/
def hardenSameWrong : ChangeSpec := { name := "hardenSame", fn := fun _ => fun
  | [d1, d2, d3] => { results := [.lit (.bool false)], args := [d1, d2, d3] }
  | _ => none }
def HardenSameWrongFalsely : Prop := hardenSameRow.holds Tryd.pinned (OpenSpec.ofChange hardenSameWrong)

/-- 'firewalllaw23.HardenFences': WHATEVER THE INPUT: true; the input reads as it did. -/
def hardenFencesSpec : ChangeSpec := { name := "hardenFences", fn := fun _ => fun
  | [d1, d2] => { results := [.lit (.bool true)], args := [d1, d2] }
  | _ => none }
def hardenFencesRow : OpenClaim := { program := "ythkgakelgdncjaadoor", sum := "26ab894a2b0bb153c65dd79fa4af0c724c833e6d016cc92c36b10ba1029c6e6b", func := "firewall/firewalllaw23.HardenFences", spec := "hardenFences", unfollowed := true, recurses := true, named := ["firewall/harden.barrier"], apart := false, laid := [("firewall/harden.barrier", laid_firewall_harden_barrier)] }
def HardenFencesSaid : Prop := hardenFencesRow.holds Tryd.pinned (OpenSpec.ofChange hardenFencesSpec)

/-- ITS FALSE NEIGHBOUR: 'it returns false'. Refute it at one input. -/
def hardenFencesWrong : ChangeSpec := { name := "hardenFences", fn := fun _ => fun
  | [d1, d2] => { results := [.lit (.bool false)], args := [d1, d2] }
  | _ => none }
def HardenFencesWrongFalsely : Prop := hardenFencesRow.holds Tryd.pinned (OpenSpec.ofChange hardenFencesWrong)

/- THE SECOND FORM. 'bulk': how many values and letters a reading holds, each counted each time it is reached (what is shared counts as often as it is met; a slice's spare places count too). A statement '..UptoSaid' is the law's where the arguments, and the package variables that the reading takes, are together of bulk at most 1048576: NARROWER than '..Said'. Prove '..Said' where nothing that the law and all that it calls make is longer than what came in: it says more and counts as full. Else prove '..UptoSaid'. A law counts once. -/
mutual
def uptoBulk {H : Type} : DataW H → Nat
  | .lit (.string bytes) => bytes.length + 1
  | .lit _ => 1
  | .nil => 1
  | .ptr d => uptoBulk d + 1
  | .slice elems spare => uptoBulkAll elems + uptoBulkAll spare + 1
  | .agg parts => uptoBulkAll parts + 1
  | .iface _ d => uptoBulk d + 1
  | .map entries => uptoBulkEntries entries + 1
  | .held _ => 1
def uptoBulkAll {H : Type} : List (DataW H) → Nat
  | [] => 0
  | d :: r => uptoBulk d + uptoBulkAll r
def uptoBulkEntries {H : Type} : List (Lit × DataW H) → Nat
  | [] => 0
  | x :: r => uptoBulkEntry x + uptoBulkEntries r
def uptoBulkEntry {H : Type} : Lit × DataW H → Nat
  | (.string bytes, d) => bytes.length + uptoBulk d + 1
  | (_, d) => uptoBulk d + 1
 end
def uptoSmall : (H : Type) → List (DataW H) → Bool := fun _ ds => decide (uptoBulkAll ds ≤ 1048576)
def OpenSpec.upto (s : _root_.Go.ChangeSpec) : _root_.Go.OpenSpec := { _root_.Go.OpenSpec.ofChange s with cond := some uptoSmall }

/-- 'firewalllaw23.HardenTell', WHERE WHAT IT READS IS OF BULK AT MOST 1048576: true; the input reads as it did. -/
def hardenTellUptoRow : OpenClaim := { program := "ythkgakelgdncjaadoor", sum := "26ab894a2b0bb153c65dd79fa4af0c724c833e6d016cc92c36b10ba1029c6e6b", func := "firewall/firewalllaw23.HardenTell", spec := "hardenTell", unfollowed := true, recurses := true, named := ["firewall/harden.barrier"], apart := false, laid := [("firewall/harden.barrier", laid_firewall_harden_barrier)], narrowed := true }
def HardenTellUptoSaid : Prop := hardenTellUptoRow.holds Tryd.pinned (OpenSpec.upto hardenTellSpec)

/-- 'firewalllaw23.HardenSame', WHERE WHAT IT READS IS OF BULK AT MOST 1048576: true; the input reads as it did. -/
def hardenSameUptoRow : OpenClaim := { program := "ythkgakelgdncjaadoor", sum := "26ab894a2b0bb153c65dd79fa4af0c724c833e6d016cc92c36b10ba1029c6e6b", func := "firewall/firewalllaw23.HardenSame", spec := "hardenSame", unfollowed := true, recurses := true, named := ["firewall/harden.barrier"], apart := false, laid := [("firewall/harden.barrier", laid_firewall_harden_barrier)], narrowed := true }
def HardenSameUptoSaid : Prop := hardenSameUptoRow.holds Tryd.pinned (OpenSpec.upto hardenSameSpec)

/-- 'firewalllaw23.HardenFences', WHERE WHAT IT READS IS OF BULK AT MOST 1048576: true; the input reads as it did. -/
def hardenFencesUptoRow : OpenClaim := { program := "ythkgakelgdncjaadoor", sum := "26ab894a2b0bb153c65dd79fa4af0c724c833e6d016cc92c36b10ba1029c6e6b", func := "firewall/firewalllaw23.HardenFences", spec := "hardenFences", unfollowed := true, recurses := true, named := ["firewall/harden.barrier"], apart := false, laid := [("firewall/harden.barrier", laid_firewall_harden_barrier)], narrowed := true }
def HardenFencesUptoSaid : Prop := hardenFencesUptoRow.holds Tryd.pinned (OpenSpec.upto hardenFencesSpec)

end Rows
end Go.Proofs.YthkgakelgdncjaaDoor
