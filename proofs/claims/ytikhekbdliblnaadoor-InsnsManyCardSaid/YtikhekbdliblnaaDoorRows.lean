/-
  NARROWER THAN 'FOR EVERY INPUT', by the rows' own cells (each row's printed sentence says how): CondsTell: laid · CondsOther: laid · CondsSigned: laid · CondsBits: laid · InsnsCheck: laid · InsnsMany: laid.
  DERIVED. THE GIVEN ROWS OF THIS SEAT. 6 by the template 'for every input the law returns true; each argument reads behind the call as it read before'; 0 by the template 'total and deterministic' (their statements: YtikhekbdliblnaaDoorTotals.lean).
  GIVEN WITH THE SEED: the statements are not yours to turn. If you find one false, say at which input.
  Laid BY PROGRAM, IN A SANDBOX (cutbox-rows.mjs): the forced cells as the released guide's own fill.sh prints them over the translation bcbc5ed327486255… (all of the seat's roots in one cut). By AI agents, Wed Nov 11 2026. No macro, syntax, notation, axiom, sorry.
-/
import Derived.Test.YtikhekbdliblnaaDoorChecked
import GoSem.Claim
import GoSem.ClaimJoined
import GoSem.ClaimMapViews
import Derived.JoinedTies
import Derived.KernelRfl
namespace Go.Proofs.YtikhekbdliblnaaDoor
/- THE CELL 'sum', in the pinned program and in every row, IS THE sha256 OF THE DUMP (.gsa) THAT YtikhekbdliblnaaDoorProg.lean LOADS. Nothing in Lean hashes anything: it is a label: what it is worth is what the hold of that sum in a sandbox is worth. -/
noncomputable def Tryd.pinned : Pinned := { name := "ytikhekbdliblnaadoor", sum := "bcbc5ed32748625518bcab430d57476733d96d9aad500166853a5e2afe25a4bb", checked := Tryd.checked }
namespace Rows
def none {H : Type} : Left H := { results := [], args := [] }

/- WHAT THE LISTED PACKAGE-LEVEL VARIABLES READ AS WHEN THE CALL BEGINS. Each datum BY PROGRAM (the guide's laid-datum.mjs) off the statement by which the dump's own 'gosem.cut.vars' lays the variable. In a bare row this is a premise. The card (YtikhekbdliblnaaDoorCards.lean) ties it to the program's text. -/
def laid_firewall_conds_orders {H : Type} : DataW H := .map [(.int .u8 16, .agg [.lit (.bool false), .lit (.bool true), .lit (.bool false)]), (.int .u8 32, .agg [.lit (.bool false), .lit (.bool false), .lit (.bool true)]), (.int .u8 48, .agg [.lit (.bool false), .lit (.bool true), .lit (.bool true)]), (.int .u8 80, .agg [.lit (.bool true), .lit (.bool false), .lit (.bool true)]), (.int .u8 160, .agg [.lit (.bool true), .lit (.bool false), .lit (.bool false)]), (.int .u8 176, .agg [.lit (.bool true), .lit (.bool true), .lit (.bool false)])]
def laid_firewall_conds_signed {H : Type} : DataW H := .map [(.int .u8 96, .lit (.int .u8 32)), (.int .u8 112, .lit (.int .u8 48)), (.int .u8 192, .lit (.int .u8 160)), (.int .u8 208, .lit (.int .u8 176))]
def laid_firewall_insns_sizes {H : Type} : DataW H := .map [(.int .u8 97, .lit (.int .i64 4)), (.int .u8 98, .lit (.int .i64 4)), (.int .u8 99, .lit (.int .i64 4)), (.int .u8 105, .lit (.int .i64 2)), (.int .u8 106, .lit (.int .i64 2)), (.int .u8 107, .lit (.int .i64 2)), (.int .u8 113, .lit (.int .i64 1)), (.int .u8 114, .lit (.int .i64 1)), (.int .u8 115, .lit (.int .i64 1)), (.int .u8 121, .lit (.int .i64 8)), (.int .u8 122, .lit (.int .i64 8)), (.int .u8 123, .lit (.int .i64 8))]

/-- 'firewalllaw06.CondsTell': WHATEVER THE INPUT: true; the input reads as it did. -/
def condsTellSpec : ChangeSpec := { name := "condsTell", fn := fun _ => fun
  | [d1, d2, d3] => { results := [.lit (.bool true)], args := [d1, d2, d3] }
  | _ => none }
def condsTellRow : OpenClaim := { program := "ytikhekbdliblnaadoor", sum := "bcbc5ed32748625518bcab430d57476733d96d9aad500166853a5e2afe25a4bb", func := "firewall/firewalllaw06.CondsTell", spec := "condsTell", named := ["firewall/conds.signed", "firewall/conds.orders"], apart := false, laid := [("firewall/conds.orders", laid_firewall_conds_orders), ("firewall/conds.signed", laid_firewall_conds_signed)] }
def CondsTellSaid : Prop := condsTellRow.holds Tryd.pinned (OpenSpec.ofChange condsTellSpec)

/-- ITS FALSE NEIGHBOUR: 'it returns false'. Refute it at one input. -/
def condsTellWrong : ChangeSpec := { name := "condsTell", fn := fun _ => fun
  | [d1, d2, d3] => { results := [.lit (.bool false)], args := [d1, d2, d3] }
  | _ => none }
def CondsTellWrongFalsely : Prop := condsTellRow.holds Tryd.pinned (OpenSpec.ofChange condsTellWrong)

/-- 'firewalllaw06.CondsOther': WHATEVER THE INPUT: true; the input reads as it did. -/
def condsOtherSpec : ChangeSpec := { name := "condsOther", fn := fun _ => fun
  | [d1, d2, d3] => { results := [.lit (.bool true)], args := [d1, d2, d3] }
  | _ => none }
def condsOtherRow : OpenClaim := { program := "ytikhekbdliblnaadoor", sum := "bcbc5ed32748625518bcab430d57476733d96d9aad500166853a5e2afe25a4bb", func := "firewall/firewalllaw06.CondsOther", spec := "condsOther", named := ["firewall/conds.signed", "firewall/conds.orders"], apart := false, laid := [("firewall/conds.orders", laid_firewall_conds_orders), ("firewall/conds.signed", laid_firewall_conds_signed)] }
def CondsOtherSaid : Prop := condsOtherRow.holds Tryd.pinned (OpenSpec.ofChange condsOtherSpec)

/-- ITS FALSE NEIGHBOUR: 'it returns false'. Refute it at one input. -/
def condsOtherWrong : ChangeSpec := { name := "condsOther", fn := fun _ => fun
  | [d1, d2, d3] => { results := [.lit (.bool false)], args := [d1, d2, d3] }
  | _ => none }
def CondsOtherWrongFalsely : Prop := condsOtherRow.holds Tryd.pinned (OpenSpec.ofChange condsOtherWrong)

/-- 'firewalllaw06.CondsSigned': WHATEVER THE INPUT: true; the input reads as it did. -/
def condsSignedSpec : ChangeSpec := { name := "condsSigned", fn := fun _ => fun
  | [d1, d2, d3] => { results := [.lit (.bool true)], args := [d1, d2, d3] }
  | _ => none }
def condsSignedRow : OpenClaim := { program := "ytikhekbdliblnaadoor", sum := "bcbc5ed32748625518bcab430d57476733d96d9aad500166853a5e2afe25a4bb", func := "firewall/firewalllaw06.CondsSigned", spec := "condsSigned", named := ["firewall/conds.signed", "firewall/conds.orders"], apart := false, laid := [("firewall/conds.orders", laid_firewall_conds_orders), ("firewall/conds.signed", laid_firewall_conds_signed)] }
def CondsSignedSaid : Prop := condsSignedRow.holds Tryd.pinned (OpenSpec.ofChange condsSignedSpec)

/-- ITS FALSE NEIGHBOUR: 'it returns false'. Refute it at one input. -/
def condsSignedWrong : ChangeSpec := { name := "condsSigned", fn := fun _ => fun
  | [d1, d2, d3] => { results := [.lit (.bool false)], args := [d1, d2, d3] }
  | _ => none }
def CondsSignedWrongFalsely : Prop := condsSignedRow.holds Tryd.pinned (OpenSpec.ofChange condsSignedWrong)

/-- 'firewalllaw06.CondsBits': WHATEVER THE INPUT: true; the input reads as it did. -/
def condsBitsSpec : ChangeSpec := { name := "condsBits", fn := fun _ => fun
  | [d1, d2, d3] => { results := [.lit (.bool true)], args := [d1, d2, d3] }
  | _ => none }
def condsBitsRow : OpenClaim := { program := "ytikhekbdliblnaadoor", sum := "bcbc5ed32748625518bcab430d57476733d96d9aad500166853a5e2afe25a4bb", func := "firewall/firewalllaw06.CondsBits", spec := "condsBits", named := ["firewall/conds.signed", "firewall/conds.orders"], apart := false, laid := [("firewall/conds.orders", laid_firewall_conds_orders), ("firewall/conds.signed", laid_firewall_conds_signed)] }
def CondsBitsSaid : Prop := condsBitsRow.holds Tryd.pinned (OpenSpec.ofChange condsBitsSpec)

/-- ITS FALSE NEIGHBOUR: 'it returns false'. Refute it at one input. -/
def condsBitsWrong : ChangeSpec := { name := "condsBits", fn := fun _ => fun
  | [d1, d2, d3] => { results := [.lit (.bool false)], args := [d1, d2, d3] }
  | _ => none }
def CondsBitsWrongFalsely : Prop := condsBitsRow.holds Tryd.pinned (OpenSpec.ofChange condsBitsWrong)

/-- 'firewalllaw02.InsnsCheck': WHATEVER THE INPUT: true; the input reads as it did. -/
def insnsCheckSpec : ChangeSpec := { name := "insnsCheck", fn := fun _ => fun
  | [d] => { results := [.lit (.bool true)], args := [d] }
  | _ => none }
def insnsCheckRow : OpenClaim := { program := "ytikhekbdliblnaadoor", sum := "bcbc5ed32748625518bcab430d57476733d96d9aad500166853a5e2afe25a4bb", func := "firewall/firewalllaw02.InsnsCheck", spec := "insnsCheck", named := ["firewall/insns.sizes"], apart := false, laid := [("firewall/insns.sizes", laid_firewall_insns_sizes)] }
def InsnsCheckSaid : Prop := insnsCheckRow.holds Tryd.pinned (OpenSpec.ofChange insnsCheckSpec)

/-- ITS FALSE NEIGHBOUR: 'it returns false'. Refute it at one input. -/
def insnsCheckWrong : ChangeSpec := { name := "insnsCheck", fn := fun _ => fun
  | [d] => { results := [.lit (.bool false)], args := [d] }
  | _ => none }
def InsnsCheckWrongFalsely : Prop := insnsCheckRow.holds Tryd.pinned (OpenSpec.ofChange insnsCheckWrong)

/-- 'firewalllaw02.InsnsMany': WHATEVER THE INPUT: true; the input reads as it did. -/
def insnsManySpec : ChangeSpec := { name := "insnsMany", fn := fun _ => fun
  | [d] => { results := [.lit (.bool true)], args := [d] }
  | _ => none }
def insnsManyRow : OpenClaim := { program := "ytikhekbdliblnaadoor", sum := "bcbc5ed32748625518bcab430d57476733d96d9aad500166853a5e2afe25a4bb", func := "firewall/firewalllaw02.InsnsMany", spec := "insnsMany", named := ["firewall/insns.sizes"], apart := false, laid := [("firewall/insns.sizes", laid_firewall_insns_sizes)] }
def InsnsManySaid : Prop := insnsManyRow.holds Tryd.pinned (OpenSpec.ofChange insnsManySpec)

/-- ITS FALSE NEIGHBOUR: 'it returns false'. Refute it at one input. -/
def insnsManyWrong : ChangeSpec := { name := "insnsMany", fn := fun _ => fun
  | [d] => { results := [.lit (.bool false)], args := [d] }
  | _ => none }
def InsnsManyWrongFalsely : Prop := insnsManyRow.holds Tryd.pinned (OpenSpec.ofChange insnsManyWrong)

/- THE SECOND FORM. 'bulk': how many values and letters a reading holds, each counted each time it is reached (what is shared counts as often as it is met; a slice's spare places count too). A statement '..UptoSaid' is the law's where the arguments, and the package variables that the reading takes, are together of bulk at most 1048576: NARROWER than '..Said'. Prove '..Said' where nothing that the law and all that it calls make is longer than what came in: it says more and counts as full. Else prove '..UptoSaid'. A law counts once. -/
mutual
def uptoBulk {H : Type} : DataW H → Nat
  | .lit (.string bytes) => bytes.length + 1
  | .lit _ => 1
  | .nil => 1
  | .ptr d => uptoBulk d + 1
  | .slice elems spare => uptoBulkAll elems + uptoBulkAll spare + 1
  | .agg parts => uptoBulkAll parts + 1
  | .iface _ d => uptoBulk d + 1
  | .map entries => uptoBulkEntries entries + 1
  | .held _ => 1
def uptoBulkAll {H : Type} : List (DataW H) → Nat
  | [] => 0
  | d :: r => uptoBulk d + uptoBulkAll r
def uptoBulkEntries {H : Type} : List (Lit × DataW H) → Nat
  | [] => 0
  | x :: r => uptoBulkEntry x + uptoBulkEntries r
def uptoBulkEntry {H : Type} : Lit × DataW H → Nat
  | (.string bytes, d) => bytes.length + uptoBulk d + 1
  | (_, d) => uptoBulk d + 1
 end
def uptoSmall : (H : Type) → List (DataW H) → Bool := fun _ ds => decide (uptoBulkAll ds ≤ 1048576)
def OpenSpec.upto (s : _root_.Go.ChangeSpec) : _root_.Go.OpenSpec := { _root_.Go.OpenSpec.ofChange s with cond := some uptoSmall }

/-- 'firewalllaw06.CondsTell', WHERE WHAT IT READS IS OF BULK AT MOST 1048576: true; the input reads as it did. -/
def condsTellUptoRow : OpenClaim := { program := "ytikhekbdliblnaadoor", sum := "bcbc5ed32748625518bcab430d57476733d96d9aad500166853a5e2afe25a4bb", func := "firewall/firewalllaw06.CondsTell", spec := "condsTell", named := ["firewall/conds.signed", "firewall/conds.orders"], apart := false, laid := [("firewall/conds.orders", laid_firewall_conds_orders), ("firewall/conds.signed", laid_firewall_conds_signed)], narrowed := true }
def CondsTellUptoSaid : Prop := condsTellUptoRow.holds Tryd.pinned (OpenSpec.upto condsTellSpec)

/-- 'firewalllaw06.CondsOther', WHERE WHAT IT READS IS OF BULK AT MOST 1048576: true; the input reads as it did. -/
def condsOtherUptoRow : OpenClaim := { program := "ytikhekbdliblnaadoor", sum := "bcbc5ed32748625518bcab430d57476733d96d9aad500166853a5e2afe25a4bb", func := "firewall/firewalllaw06.CondsOther", spec := "condsOther", named := ["firewall/conds.signed", "firewall/conds.orders"], apart := false, laid := [("firewall/conds.orders", laid_firewall_conds_orders), ("firewall/conds.signed", laid_firewall_conds_signed)], narrowed := true }
def CondsOtherUptoSaid : Prop := condsOtherUptoRow.holds Tryd.pinned (OpenSpec.upto condsOtherSpec)

/-- 'firewalllaw06.CondsSigned', WHERE WHAT IT READS IS OF BULK AT MOST 1048576: true; the input reads as it did. -/
def condsSignedUptoRow : OpenClaim := { program := "ytikhekbdliblnaadoor", sum := "bcbc5ed32748625518bcab430d57476733d96d9aad500166853a5e2afe25a4bb", func := "firewall/firewalllaw06.CondsSigned", spec := "condsSigned", named := ["firewall/conds.signed", "firewall/conds.orders"], apart := false, laid := [("firewall/conds.orders", laid_firewall_conds_orders), ("firewall/conds.signed", laid_firewall_conds_signed)], narrowed := true }
def CondsSignedUptoSaid : Prop := condsSignedUptoRow.holds Tryd.pinned (OpenSpec.upto condsSignedSpec)

/-- 'firewalllaw06.CondsBits', WHERE WHAT IT READS IS OF BULK AT MOST 1048576: true; the input reads as it did. -/
def condsBitsUptoRow : OpenClaim := { program := "ytikhekbdliblnaadoor", sum := "bcbc5ed32748625518bcab430d57476733d96d9aad500166853a5e2afe25a4bb", func := "firewall/firewalllaw06.CondsBits", spec := "condsBits", named := ["firewall/conds.signed", "firewall/conds.orders"], apart := false, laid := [("firewall/conds.orders", laid_firewall_conds_orders), ("firewall/conds.signed", laid_firewall_conds_signed)], narrowed := true }
def CondsBitsUptoSaid : Prop := condsBitsUptoRow.holds Tryd.pinned (OpenSpec.upto condsBitsSpec)

/-- 'firewalllaw02.InsnsCheck', WHERE WHAT IT READS IS OF BULK AT MOST 1048576: true; the input reads as it did. -/
def insnsCheckUptoRow : OpenClaim := { program := "ytikhekbdliblnaadoor", sum := "bcbc5ed32748625518bcab430d57476733d96d9aad500166853a5e2afe25a4bb", func := "firewall/firewalllaw02.InsnsCheck", spec := "insnsCheck", named := ["firewall/insns.sizes"], apart := false, laid := [("firewall/insns.sizes", laid_firewall_insns_sizes)], narrowed := true }
def InsnsCheckUptoSaid : Prop := insnsCheckUptoRow.holds Tryd.pinned (OpenSpec.upto insnsCheckSpec)

/-- 'firewalllaw02.InsnsMany', WHERE WHAT IT READS IS OF BULK AT MOST 1048576: true; the input reads as it did. -/
def insnsManyUptoRow : OpenClaim := { program := "ytikhekbdliblnaadoor", sum := "bcbc5ed32748625518bcab430d57476733d96d9aad500166853a5e2afe25a4bb", func := "firewall/firewalllaw02.InsnsMany", spec := "insnsMany", named := ["firewall/insns.sizes"], apart := false, laid := [("firewall/insns.sizes", laid_firewall_insns_sizes)], narrowed := true }
def InsnsManyUptoSaid : Prop := insnsManyUptoRow.holds Tryd.pinned (OpenSpec.upto insnsManySpec)

end Rows
end Go.Proofs.YtikhekbdliblnaaDoor
