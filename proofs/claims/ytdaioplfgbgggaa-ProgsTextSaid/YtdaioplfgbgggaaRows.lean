/-
  No cell of these rows narrows 'for every input' (looked for: loops, veiled, ifaces, maps, wideKeys, modest, calm, conditions, laid).
  DERIVED. THE GIVEN ROWS OF THIS SEAT. 7 by the template 'for every input the law returns true; each argument reads behind the call as it read before'; 0 by the template 'total and deterministic' (their statements: YtdaioplfgbgggaaTotals.lean).
  GIVEN WITH THE SEED: the statements are not yours to turn. If you find one false, say at which input.
  Laid BY PROGRAM, IN A SANDBOX (cutbox-rows.mjs): the forced cells as the released guide's own fill.sh prints them over the translation 1edb98a50157b24d… (all of the seat's roots in one cut). By AI agents, Wed Nov 11 2026. No macro, syntax, notation, axiom, sorry.
-/
import Derived.Test.YtdaioplfgbgggaaChecked
import GoSem.Claim
import GoSem.ClaimJoined
import GoSem.ClaimMapViews
import Derived.JoinedTies
import Derived.KernelRfl
namespace Go.Proofs.Ytdaioplfgbgggaa
/- THE CELL 'sum', in the pinned program and in every row, IS THE sha256 OF THE DUMP (.gsa) THAT YtdaioplfgbgggaaProg.lean LOADS. Nothing in Lean hashes anything: it is a label: what it is worth is what the hold of that sum in a sandbox is worth. -/
noncomputable def Try.pinned : Pinned := { name := "ytdaioplfgbgggaa", sum := "1edb98a50157b24d339c53e30e127c0624507d57f357e571566632b4c9704061", checked := Try.checked }
namespace Rows
def none {H : Type} : Left H := { results := [], args := [] }

/-- 'firewalllaw04.ProgsCheck': WHATEVER THE INPUT: true; the input reads as it did. -/
def progsCheckSpec : ChangeSpec := { name := "progsCheck", fn := fun _ => fun
  | [d1, d2] => { results := [.lit (.bool true)], args := [d1, d2] }
  | _ => none }
def progsCheckRow : OpenClaim := { program := "ytdaioplfgbgggaa", sum := "1edb98a50157b24d339c53e30e127c0624507d57f357e571566632b4c9704061", func := "firewall/firewalllaw04.ProgsCheck", spec := "progsCheck", unfollowed := true, recurses := true, apart := false }
def ProgsCheckSaid : Prop := progsCheckRow.holds Try.pinned (OpenSpec.ofChange progsCheckSpec)

/-- ITS FALSE NEIGHBOUR: 'it returns false'. Refute it at one input. -/
def progsCheckWrong : ChangeSpec := { name := "progsCheck", fn := fun _ => fun
  | [d1, d2] => { results := [.lit (.bool false)], args := [d1, d2] }
  | _ => none }
def ProgsCheckWrongFalsely : Prop := progsCheckRow.holds Try.pinned (OpenSpec.ofChange progsCheckWrong)

/-- 'firewalllaw04.ProgsText': WHATEVER THE INPUT: true; the input reads as it did. -/
def progsTextSpec : ChangeSpec := { name := "progsText", fn := fun _ => fun
  | [d1, d2] => { results := [.lit (.bool true)], args := [d1, d2] }
  | _ => none }
def progsTextRow : OpenClaim := { program := "ytdaioplfgbgggaa", sum := "1edb98a50157b24d339c53e30e127c0624507d57f357e571566632b4c9704061", func := "firewall/firewalllaw04.ProgsText", spec := "progsText", unfollowed := true, recurses := true, apart := false }
def ProgsTextSaid : Prop := progsTextRow.holds Try.pinned (OpenSpec.ofChange progsTextSpec)

/-- ITS FALSE NEIGHBOUR: 'it returns false'. Refute it at one input. -/
def progsTextWrong : ChangeSpec := { name := "progsText", fn := fun _ => fun
  | [d1, d2] => { results := [.lit (.bool false)], args := [d1, d2] }
  | _ => none }
def ProgsTextWrongFalsely : Prop := progsTextRow.holds Try.pinned (OpenSpec.ofChange progsTextWrong)

/-- 'firewalllaw04.ProgsWay': WHATEVER THE INPUT: true; the input reads as it did. -/
def progsWaySpec : ChangeSpec := { name := "progsWay", fn := fun _ => fun
  | [d1, d2] => { results := [.lit (.bool true)], args := [d1, d2] }
  | _ => none }
def progsWayRow : OpenClaim := { program := "ytdaioplfgbgggaa", sum := "1edb98a50157b24d339c53e30e127c0624507d57f357e571566632b4c9704061", func := "firewall/firewalllaw04.ProgsWay", spec := "progsWay", unfollowed := true, recurses := true, apart := false }
def ProgsWaySaid : Prop := progsWayRow.holds Try.pinned (OpenSpec.ofChange progsWaySpec)

/-- ITS FALSE NEIGHBOUR: 'it returns false'. Refute it at one input. -/
def progsWayWrong : ChangeSpec := { name := "progsWay", fn := fun _ => fun
  | [d1, d2] => { results := [.lit (.bool false)], args := [d1, d2] }
  | _ => none }
def ProgsWayWrongFalsely : Prop := progsWayRow.holds Try.pinned (OpenSpec.ofChange progsWayWrong)

/-- 'firewalllaw04.ProgsMore': WHATEVER THE INPUT: true; the input reads as it did. -/
def progsMoreSpec : ChangeSpec := { name := "progsMore", fn := fun _ => fun
  | [d1, d2, d3] => { results := [.lit (.bool true)], args := [d1, d2, d3] }
  | _ => none }
def progsMoreRow : OpenClaim := { program := "ytdaioplfgbgggaa", sum := "1edb98a50157b24d339c53e30e127c0624507d57f357e571566632b4c9704061", func := "firewall/firewalllaw04.ProgsMore", spec := "progsMore", unfollowed := true, recurses := true, apart := false }
def ProgsMoreSaid : Prop := progsMoreRow.holds Try.pinned (OpenSpec.ofChange progsMoreSpec)

/-- ITS FALSE NEIGHBOUR: 'it returns false'. Refute it at one input. -/
def progsMoreWrong : ChangeSpec := { name := "progsMore", fn := fun _ => fun
  | [d1, d2, d3] => { results := [.lit (.bool false)], args := [d1, d2, d3] }
  | _ => none }
def ProgsMoreWrongFalsely : Prop := progsMoreRow.holds Try.pinned (OpenSpec.ofChange progsMoreWrong)

/-- 'firewalllaw04.ProgsStraight': WHATEVER THE INPUT: true; the input reads as it did. -/
def progsStraightSpec : ChangeSpec := { name := "progsStraight", fn := fun _ => fun
  | [d] => { results := [.lit (.bool true)], args := [d] }
  | _ => none }
def progsStraightRow : OpenClaim := { program := "ytdaioplfgbgggaa", sum := "1edb98a50157b24d339c53e30e127c0624507d57f357e571566632b4c9704061", func := "firewall/firewalllaw04.ProgsStraight", spec := "progsStraight", unfollowed := true, recurses := true, apart := false }
def ProgsStraightSaid : Prop := progsStraightRow.holds Try.pinned (OpenSpec.ofChange progsStraightSpec)

/-- ITS FALSE NEIGHBOUR: 'it returns false'. Refute it at one input. -/
def progsStraightWrong : ChangeSpec := { name := "progsStraight", fn := fun _ => fun
  | [d] => { results := [.lit (.bool false)], args := [d] }
  | _ => none }
def ProgsStraightWrongFalsely : Prop := progsStraightRow.holds Try.pinned (OpenSpec.ofChange progsStraightWrong)

/-- 'firewalllaw04.ProgsBytes': WHATEVER THE INPUT: true; the input reads as it did. -/
def progsBytesSpec : ChangeSpec := { name := "progsBytes", fn := fun _ => fun
  | [d1, d2] => { results := [.lit (.bool true)], args := [d1, d2] }
  | _ => none }
def progsBytesRow : OpenClaim := { program := "ytdaioplfgbgggaa", sum := "1edb98a50157b24d339c53e30e127c0624507d57f357e571566632b4c9704061", func := "firewall/firewalllaw04.ProgsBytes", spec := "progsBytes", unfollowed := true, recurses := true, apart := false }
def ProgsBytesSaid : Prop := progsBytesRow.holds Try.pinned (OpenSpec.ofChange progsBytesSpec)

/-- ITS FALSE NEIGHBOUR: 'it returns false'. Refute it at one input. -/
def progsBytesWrong : ChangeSpec := { name := "progsBytes", fn := fun _ => fun
  | [d1, d2] => { results := [.lit (.bool false)], args := [d1, d2] }
  | _ => none }
def ProgsBytesWrongFalsely : Prop := progsBytesRow.holds Try.pinned (OpenSpec.ofChange progsBytesWrong)

/-- 'firewalllaw04.ProgsBack': WHATEVER THE INPUT: true; the input reads as it did. -/
def progsBackSpec : ChangeSpec := { name := "progsBack", fn := fun _ => fun
  | [d1, d2] => { results := [.lit (.bool true)], args := [d1, d2] }
  | _ => none }
def progsBackRow : OpenClaim := { program := "ytdaioplfgbgggaa", sum := "1edb98a50157b24d339c53e30e127c0624507d57f357e571566632b4c9704061", func := "firewall/firewalllaw04.ProgsBack", spec := "progsBack", unfollowed := true, recurses := true, apart := false }
def ProgsBackSaid : Prop := progsBackRow.holds Try.pinned (OpenSpec.ofChange progsBackSpec)

/-- ITS FALSE NEIGHBOUR: 'it returns false'. Refute it at one input. -/
def progsBackWrong : ChangeSpec := { name := "progsBack", fn := fun _ => fun
  | [d1, d2] => { results := [.lit (.bool false)], args := [d1, d2] }
  | _ => none }
def ProgsBackWrongFalsely : Prop := progsBackRow.holds Try.pinned (OpenSpec.ofChange progsBackWrong)

/- THE SECOND FORM. 'bulk': how many values and letters a reading holds, each counted each time it is reached (what is shared counts as often as it is met; a slice's spare places count too). A statement '..UptoSaid' is the law's where the arguments, and the package variables that the reading takes, are together of bulk at most 1048576: NARROWER than '..Said'. Prove '..Said' where nothing that the law and all that it calls make is longer than what came in: it says more and counts as full. Else prove '..UptoSaid'. A law counts once. -/
mutual
def uptoBulk {H : Type} : DataW H → Nat
  | .lit (.string bytes) => bytes.length + 1
  | .lit _ => 1
  | .nil => 1
  | .ptr d => uptoBulk d + 1
  | .slice elems spare => uptoBulkAll elems + uptoBulkAll spare + 1
  | .agg parts => uptoBulkAll parts + 1
  | .iface _ d => uptoBulk d + 1
  | .map entries => uptoBulkEntries entries + 1
  | .held _ => 1
def uptoBulkAll {H : Type} : List (DataW H) → Nat
  | [] => 0
  | d :: r => uptoBulk d + uptoBulkAll r
def uptoBulkEntries {H : Type} : List (Lit × DataW H) → Nat
  | [] => 0
  | x :: r => uptoBulkEntry x + uptoBulkEntries r
def uptoBulkEntry {H : Type} : Lit × DataW H → Nat
  | (.string bytes, d) => bytes.length + uptoBulk d + 1
  | (_, d) => uptoBulk d + 1
 end
def uptoSmall : (H : Type) → List (DataW H) → Bool := fun _ ds => decide (uptoBulkAll ds ≤ 1048576)
def OpenSpec.upto (s : _root_.Go.ChangeSpec) : _root_.Go.OpenSpec := { _root_.Go.OpenSpec.ofChange s with cond := some uptoSmall }

/-- 'firewalllaw04.ProgsCheck', WHERE WHAT IT READS IS OF BULK AT MOST 1048576: true; the input reads as it did. -/
def progsCheckUptoRow : OpenClaim := { program := "ytdaioplfgbgggaa", sum := "1edb98a50157b24d339c53e30e127c0624507d57f357e571566632b4c9704061", func := "firewall/firewalllaw04.ProgsCheck", spec := "progsCheck", unfollowed := true, recurses := true, apart := false, narrowed := true }
def ProgsCheckUptoSaid : Prop := progsCheckUptoRow.holds Try.pinned (OpenSpec.upto progsCheckSpec)

/-- 'firewalllaw04.ProgsText', WHERE WHAT IT READS IS OF BULK AT MOST 1048576: true; the input reads as it did. -/
def progsTextUptoRow : OpenClaim := { program := "ytdaioplfgbgggaa", sum := "1edb98a50157b24d339c53e30e127c0624507d57f357e571566632b4c9704061", func := "firewall/firewalllaw04.ProgsText", spec := "progsText", unfollowed := true, recurses := true, apart := false, narrowed := true }
def ProgsTextUptoSaid : Prop := progsTextUptoRow.holds Try.pinned (OpenSpec.upto progsTextSpec)

/-- 'firewalllaw04.ProgsWay', WHERE WHAT IT READS IS OF BULK AT MOST 1048576: true; the input reads as it did. -/
def progsWayUptoRow : OpenClaim := { program := "ytdaioplfgbgggaa", sum := "1edb98a50157b24d339c53e30e127c0624507d57f357e571566632b4c9704061", func := "firewall/firewalllaw04.ProgsWay", spec := "progsWay", unfollowed := true, recurses := true, apart := false, narrowed := true }
def ProgsWayUptoSaid : Prop := progsWayUptoRow.holds Try.pinned (OpenSpec.upto progsWaySpec)

/-- 'firewalllaw04.ProgsMore', WHERE WHAT IT READS IS OF BULK AT MOST 1048576: true; the input reads as it did. -/
def progsMoreUptoRow : OpenClaim := { program := "ytdaioplfgbgggaa", sum := "1edb98a50157b24d339c53e30e127c0624507d57f357e571566632b4c9704061", func := "firewall/firewalllaw04.ProgsMore", spec := "progsMore", unfollowed := true, recurses := true, apart := false, narrowed := true }
def ProgsMoreUptoSaid : Prop := progsMoreUptoRow.holds Try.pinned (OpenSpec.upto progsMoreSpec)

/-- 'firewalllaw04.ProgsStraight', WHERE WHAT IT READS IS OF BULK AT MOST 1048576: true; the input reads as it did. -/
def progsStraightUptoRow : OpenClaim := { program := "ytdaioplfgbgggaa", sum := "1edb98a50157b24d339c53e30e127c0624507d57f357e571566632b4c9704061", func := "firewall/firewalllaw04.ProgsStraight", spec := "progsStraight", unfollowed := true, recurses := true, apart := false, narrowed := true }
def ProgsStraightUptoSaid : Prop := progsStraightUptoRow.holds Try.pinned (OpenSpec.upto progsStraightSpec)

/-- 'firewalllaw04.ProgsBytes', WHERE WHAT IT READS IS OF BULK AT MOST 1048576: true; the input reads as it did. -/
def progsBytesUptoRow : OpenClaim := { program := "ytdaioplfgbgggaa", sum := "1edb98a50157b24d339c53e30e127c0624507d57f357e571566632b4c9704061", func := "firewall/firewalllaw04.ProgsBytes", spec := "progsBytes", unfollowed := true, recurses := true, apart := false, narrowed := true }
def ProgsBytesUptoSaid : Prop := progsBytesUptoRow.holds Try.pinned (OpenSpec.upto progsBytesSpec)

/-- 'firewalllaw04.ProgsBack', WHERE WHAT IT READS IS OF BULK AT MOST 1048576: true; the input reads as it did. -/
def progsBackUptoRow : OpenClaim := { program := "ytdaioplfgbgggaa", sum := "1edb98a50157b24d339c53e30e127c0624507d57f357e571566632b4c9704061", func := "firewall/firewalllaw04.ProgsBack", spec := "progsBack", unfollowed := true, recurses := true, apart := false, narrowed := true }
def ProgsBackUptoSaid : Prop := progsBackUptoRow.holds Try.pinned (OpenSpec.upto progsBackSpec)

end Rows
end Go.Proofs.Ytdaioplfgbgggaa
