/-
  No cell of these rows narrows 'for every input' (looked for: loops, veiled, ifaces, maps, wideKeys, modest, calm, conditions, laid).
  DERIVED. THE GIVEN ROWS OF THIS SEAT. 4 by the template 'for every input the law returns true; each argument reads behind the call as it read before'; 0 by the template 'total and deterministic' (their statements: YtikhekbdliblnaaTotals.lean).
  GIVEN WITH THE SEED: the statements are not yours to turn. If you find one false, say at which input.
  Laid BY PROGRAM, IN A SANDBOX (cutbox-rows.mjs): the forced cells as the released guide's own fill.sh prints them over the translation a838eebf01bde5c8… (all of the seat's roots in one cut). By AI agents, Wed Nov 11 2026. No macro, syntax, notation, axiom, sorry.
-/
import Derived.Test.YtikhekbdliblnaaChecked
import GoSem.Claim
import GoSem.ClaimJoined
import GoSem.ClaimMapViews
import Derived.JoinedTies
import Derived.KernelRfl
namespace Go.Proofs.Ytikhekbdliblnaa
/- THE CELL 'sum', in the pinned program and in every row, IS THE sha256 OF THE DUMP (.gsa) THAT YtikhekbdliblnaaProg.lean LOADS. Nothing in Lean hashes anything: it is a label: what it is worth is what the hold of that sum in a sandbox is worth. -/
noncomputable def Try.pinned : Pinned := { name := "ytikhekbdliblnaa", sum := "a838eebf01bde5c8768f08234c4ee09b6d113fa4edadb043d975973e47cf1ec8", checked := Try.checked }
namespace Rows
def none {H : Type} : Left H := { results := [], args := [] }

/-- 'firewalllaw02.InsnsInside': WHATEVER THE INPUT: true; the input reads as it did. -/
def insnsInsideSpec : ChangeSpec := { name := "insnsInside", fn := fun _ => fun
  | [d] => { results := [.lit (.bool true)], args := [d] }
  | _ => none }
def insnsInsideRow : OpenClaim := { program := "ytikhekbdliblnaa", sum := "a838eebf01bde5c8768f08234c4ee09b6d113fa4edadb043d975973e47cf1ec8", func := "firewall/firewalllaw02.InsnsInside", spec := "insnsInside", apart := false }
def InsnsInsideSaid : Prop := insnsInsideRow.holds Try.pinned (OpenSpec.ofChange insnsInsideSpec)

/-- ITS FALSE NEIGHBOUR: 'it returns false'. Refute it at one input. -/
def insnsInsideWrong : ChangeSpec := { name := "insnsInside", fn := fun _ => fun
  | [d] => { results := [.lit (.bool false)], args := [d] }
  | _ => none }
def InsnsInsideWrongFalsely : Prop := insnsInsideRow.holds Try.pinned (OpenSpec.ofChange insnsInsideWrong)

/-- 'firewalllaw02.InsnsFields': WHATEVER THE INPUT: true; the input reads as it did. -/
def insnsFieldsSpec : ChangeSpec := { name := "insnsFields", fn := fun _ => fun
  | [d1, d2, d3] => { results := [.lit (.bool true)], args := [d1, d2, d3] }
  | _ => none }
def insnsFieldsRow : OpenClaim := { program := "ytikhekbdliblnaa", sum := "a838eebf01bde5c8768f08234c4ee09b6d113fa4edadb043d975973e47cf1ec8", func := "firewall/firewalllaw02.InsnsFields", spec := "insnsFields", apart := false }
def InsnsFieldsSaid : Prop := insnsFieldsRow.holds Try.pinned (OpenSpec.ofChange insnsFieldsSpec)

/-- ITS FALSE NEIGHBOUR: 'it returns false'. Refute it at one input. -/
def insnsFieldsWrong : ChangeSpec := { name := "insnsFields", fn := fun _ => fun
  | [d1, d2, d3] => { results := [.lit (.bool false)], args := [d1, d2, d3] }
  | _ => none }
def InsnsFieldsWrongFalsely : Prop := insnsFieldsRow.holds Try.pinned (OpenSpec.ofChange insnsFieldsWrong)

/-- 'firewalllaw02.InsnsBytes': WHATEVER THE INPUT: true; the input reads as it did. -/
def insnsBytesSpec : ChangeSpec := { name := "insnsBytes", fn := fun _ => fun
  | [d1, d2] => { results := [.lit (.bool true)], args := [d1, d2] }
  | _ => none }
def insnsBytesRow : OpenClaim := { program := "ytikhekbdliblnaa", sum := "a838eebf01bde5c8768f08234c4ee09b6d113fa4edadb043d975973e47cf1ec8", func := "firewall/firewalllaw02.InsnsBytes", spec := "insnsBytes", apart := false }
def InsnsBytesSaid : Prop := insnsBytesRow.holds Try.pinned (OpenSpec.ofChange insnsBytesSpec)

/-- ITS FALSE NEIGHBOUR: 'it returns false'. Refute it at one input. -/
def insnsBytesWrong : ChangeSpec := { name := "insnsBytes", fn := fun _ => fun
  | [d1, d2] => { results := [.lit (.bool false)], args := [d1, d2] }
  | _ => none }
def InsnsBytesWrongFalsely : Prop := insnsBytesRow.holds Try.pinned (OpenSpec.ofChange insnsBytesWrong)

/-- 'firewalllaw02.InsnsBack': WHATEVER THE INPUT: true; the input reads as it did. -/
def insnsBackSpec : ChangeSpec := { name := "insnsBack", fn := fun _ => fun
  | [d1, d2] => { results := [.lit (.bool true)], args := [d1, d2] }
  | _ => none }
def insnsBackRow : OpenClaim := { program := "ytikhekbdliblnaa", sum := "a838eebf01bde5c8768f08234c4ee09b6d113fa4edadb043d975973e47cf1ec8", func := "firewall/firewalllaw02.InsnsBack", spec := "insnsBack", apart := false }
def InsnsBackSaid : Prop := insnsBackRow.holds Try.pinned (OpenSpec.ofChange insnsBackSpec)

/-- ITS FALSE NEIGHBOUR: 'it returns false'. Refute it at one input. -/
def insnsBackWrong : ChangeSpec := { name := "insnsBack", fn := fun _ => fun
  | [d1, d2] => { results := [.lit (.bool false)], args := [d1, d2] }
  | _ => none }
def InsnsBackWrongFalsely : Prop := insnsBackRow.holds Try.pinned (OpenSpec.ofChange insnsBackWrong)

/- THE SECOND FORM. 'bulk': how many values and letters a reading holds, each counted each time it is reached (what is shared counts as often as it is met; a slice's spare places count too). A statement '..UptoSaid' is the law's where the arguments, and the package variables that the reading takes, are together of bulk at most 1048576: NARROWER than '..Said'. Prove '..Said' where nothing that the law and all that it calls make is longer than what came in: it says more and counts as full. Else prove '..UptoSaid'. A law counts once. -/
mutual
def uptoBulk {H : Type} : DataW H → Nat
  | .lit (.string bytes) => bytes.length + 1
  | .lit _ => 1
  | .nil => 1
  | .ptr d => uptoBulk d + 1
  | .slice elems spare => uptoBulkAll elems + uptoBulkAll spare + 1
  | .agg parts => uptoBulkAll parts + 1
  | .iface _ d => uptoBulk d + 1
  | .map entries => uptoBulkEntries entries + 1
  | .held _ => 1
def uptoBulkAll {H : Type} : List (DataW H) → Nat
  | [] => 0
  | d :: r => uptoBulk d + uptoBulkAll r
def uptoBulkEntries {H : Type} : List (Lit × DataW H) → Nat
  | [] => 0
  | x :: r => uptoBulkEntry x + uptoBulkEntries r
def uptoBulkEntry {H : Type} : Lit × DataW H → Nat
  | (.string bytes, d) => bytes.length + uptoBulk d + 1
  | (_, d) => uptoBulk d + 1
 end
def uptoSmall : (H : Type) → List (DataW H) → Bool := fun _ ds => decide (uptoBulkAll ds ≤ 1048576)
def OpenSpec.upto (s : _root_.Go.ChangeSpec) : _root_.Go.OpenSpec := { _root_.Go.OpenSpec.ofChange s with cond := some uptoSmall }

/-- 'firewalllaw02.InsnsInside', WHERE WHAT IT READS IS OF BULK AT MOST 1048576: true; the input reads as it did. -/
def insnsInsideUptoRow : OpenClaim := { program := "ytikhekbdliblnaa", sum := "a838eebf01bde5c8768f08234c4ee09b6d113fa4edadb043d975973e47cf1ec8", func := "firewall/firewalllaw02.InsnsInside", spec := "insnsInside", apart := false, narrowed := true }
def InsnsInsideUptoSaid : Prop := insnsInsideUptoRow.holds Try.pinned (OpenSpec.upto insnsInsideSpec)

/-- 'firewalllaw02.InsnsFields', WHERE WHAT IT READS IS OF BULK AT MOST 1048576: true; the input reads as it did. -/
def insnsFieldsUptoRow : OpenClaim := { program := "ytikhekbdliblnaa", sum := "a838eebf01bde5c8768f08234c4ee09b6d113fa4edadb043d975973e47cf1ec8", func := "firewall/firewalllaw02.InsnsFields", spec := "insnsFields", apart := false, narrowed := true }
def InsnsFieldsUptoSaid : Prop := insnsFieldsUptoRow.holds Try.pinned (OpenSpec.upto insnsFieldsSpec)

/-- 'firewalllaw02.InsnsBytes', WHERE WHAT IT READS IS OF BULK AT MOST 1048576: true; the input reads as it did. -/
def insnsBytesUptoRow : OpenClaim := { program := "ytikhekbdliblnaa", sum := "a838eebf01bde5c8768f08234c4ee09b6d113fa4edadb043d975973e47cf1ec8", func := "firewall/firewalllaw02.InsnsBytes", spec := "insnsBytes", apart := false, narrowed := true }
def InsnsBytesUptoSaid : Prop := insnsBytesUptoRow.holds Try.pinned (OpenSpec.upto insnsBytesSpec)

/-- 'firewalllaw02.InsnsBack', WHERE WHAT IT READS IS OF BULK AT MOST 1048576: true; the input reads as it did. -/
def insnsBackUptoRow : OpenClaim := { program := "ytikhekbdliblnaa", sum := "a838eebf01bde5c8768f08234c4ee09b6d113fa4edadb043d975973e47cf1ec8", func := "firewall/firewalllaw02.InsnsBack", spec := "insnsBack", apart := false, narrowed := true }
def InsnsBackUptoSaid : Prop := insnsBackUptoRow.holds Try.pinned (OpenSpec.upto insnsBackSpec)

end Rows
end Go.Proofs.Ytikhekbdliblnaa
