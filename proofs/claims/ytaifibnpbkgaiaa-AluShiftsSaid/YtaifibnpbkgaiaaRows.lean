/-
  No cell of these rows narrows 'for every input' (looked for: loops, veiled, ifaces, maps, wideKeys, modest, calm, conditions, laid).
  DERIVED. THE GIVEN ROWS OF THIS SEAT. 9 by the template 'for every input the law returns true; each argument reads behind the call as it read before'; 0 by the template 'total and deterministic' (their statements: YtaifibnpbkgaiaaTotals.lean).
  GIVEN WITH THE SEED: the statements are not yours to turn. If you find one false, say at which input.
  Laid BY PROGRAM, IN A SANDBOX (cutbox-rows.mjs): the forced cells as the released guide's own fill.sh prints them over the translation ce08b6b4015ac746… (all of the seat's roots in one cut). By AI agents, Wed Nov 11 2026. No macro, syntax, notation, axiom, sorry.
-/
import Derived.Test.YtaifibnpbkgaiaaChecked
import GoSem.Claim
import GoSem.ClaimJoined
import GoSem.ClaimMapViews
import Derived.JoinedTies
import Derived.KernelRfl
namespace Go.Proofs.Ytaifibnpbkgaiaa
/- THE CELL 'sum', in the pinned program and in every row, IS THE sha256 OF THE DUMP (.gsa) THAT YtaifibnpbkgaiaaProg.lean LOADS. Nothing in Lean hashes anything: it is a label: what it is worth is what the hold of that sum in a sandbox is worth. -/
noncomputable def Try.pinned : Pinned := { name := "ytaifibnpbkgaiaa", sum := "ce08b6b4015ac746fe15fd56ca4abe278b8e681f9684894cab374ea0e00511a0", checked := Try.checked }
namespace Rows
def none {H : Type} : Left H := { results := [], args := [] }

/-- 'firewalllaw01.NumsTell': WHATEVER THE INPUT: true; the input reads as it did. -/
def numsTellSpec : ChangeSpec := { name := "numsTell", fn := fun _ => fun
  | [d1, d2, d3] => { results := [.lit (.bool true)], args := [d1, d2, d3] }
  | _ => none }
def numsTellRow : OpenClaim := { program := "ytaifibnpbkgaiaa", sum := "ce08b6b4015ac746fe15fd56ca4abe278b8e681f9684894cab374ea0e00511a0", func := "firewall/firewalllaw01.NumsTell", spec := "numsTell", apart := false }
def NumsTellSaid : Prop := numsTellRow.holds Try.pinned (OpenSpec.ofChange numsTellSpec)

/-- ITS FALSE NEIGHBOUR: 'it returns false'. Refute it at one input. -/
def numsTellWrong : ChangeSpec := { name := "numsTell", fn := fun _ => fun
  | [d1, d2, d3] => { results := [.lit (.bool false)], args := [d1, d2, d3] }
  | _ => none }
def NumsTellWrongFalsely : Prop := numsTellRow.holds Try.pinned (OpenSpec.ofChange numsTellWrong)

/-- 'firewalllaw01.NumsParts': WHATEVER THE INPUT: true; the input reads as it did. -/
def numsPartsSpec : ChangeSpec := { name := "numsParts", fn := fun _ => fun
  | [d1, d2] => { results := [.lit (.bool true)], args := [d1, d2] }
  | _ => none }
def numsPartsRow : OpenClaim := { program := "ytaifibnpbkgaiaa", sum := "ce08b6b4015ac746fe15fd56ca4abe278b8e681f9684894cab374ea0e00511a0", func := "firewall/firewalllaw01.NumsParts", spec := "numsParts", apart := false }
def NumsPartsSaid : Prop := numsPartsRow.holds Try.pinned (OpenSpec.ofChange numsPartsSpec)

/-- ITS FALSE NEIGHBOUR: 'it returns false'. Refute it at one input. -/
def numsPartsWrong : ChangeSpec := { name := "numsParts", fn := fun _ => fun
  | [d1, d2] => { results := [.lit (.bool false)], args := [d1, d2] }
  | _ => none }
def NumsPartsWrongFalsely : Prop := numsPartsRow.holds Try.pinned (OpenSpec.ofChange numsPartsWrong)

/-- 'firewalllaw01.NumsBack': WHATEVER THE INPUT: true; the input reads as it did. -/
def numsBackSpec : ChangeSpec := { name := "numsBack", fn := fun _ => fun
  | [d1, d2, d3] => { results := [.lit (.bool true)], args := [d1, d2, d3] }
  | _ => none }
def numsBackRow : OpenClaim := { program := "ytaifibnpbkgaiaa", sum := "ce08b6b4015ac746fe15fd56ca4abe278b8e681f9684894cab374ea0e00511a0", func := "firewall/firewalllaw01.NumsBack", spec := "numsBack", apart := false }
def NumsBackSaid : Prop := numsBackRow.holds Try.pinned (OpenSpec.ofChange numsBackSpec)

/-- ITS FALSE NEIGHBOUR: 'it returns false'. Refute it at one input. -/
def numsBackWrong : ChangeSpec := { name := "numsBack", fn := fun _ => fun
  | [d1, d2, d3] => { results := [.lit (.bool false)], args := [d1, d2, d3] }
  | _ => none }
def NumsBackWrongFalsely : Prop := numsBackRow.holds Try.pinned (OpenSpec.ofChange numsBackWrong)

/-- 'firewalllaw01.NumsSign': WHATEVER THE INPUT: true; the input reads as it did. -/
def numsSignSpec : ChangeSpec := { name := "numsSign", fn := fun _ => fun
  | [d1, d2] => { results := [.lit (.bool true)], args := [d1, d2] }
  | _ => none }
def numsSignRow : OpenClaim := { program := "ytaifibnpbkgaiaa", sum := "ce08b6b4015ac746fe15fd56ca4abe278b8e681f9684894cab374ea0e00511a0", func := "firewall/firewalllaw01.NumsSign", spec := "numsSign", apart := false }
def NumsSignSaid : Prop := numsSignRow.holds Try.pinned (OpenSpec.ofChange numsSignSpec)

/-- ITS FALSE NEIGHBOUR: 'it returns false'. Refute it at one input. -/
def numsSignWrong : ChangeSpec := { name := "numsSign", fn := fun _ => fun
  | [d1, d2] => { results := [.lit (.bool false)], args := [d1, d2] }
  | _ => none }
def NumsSignWrongFalsely : Prop := numsSignRow.holds Try.pinned (OpenSpec.ofChange numsSignWrong)

/-- 'firewalllaw05.AluTell': WHATEVER THE INPUT: true; the input reads as it did. -/
def aluTellSpec : ChangeSpec := { name := "aluTell", fn := fun _ => fun
  | [d1, d2, d3] => { results := [.lit (.bool true)], args := [d1, d2, d3] }
  | _ => none }
def aluTellRow : OpenClaim := { program := "ytaifibnpbkgaiaa", sum := "ce08b6b4015ac746fe15fd56ca4abe278b8e681f9684894cab374ea0e00511a0", func := "firewall/firewalllaw05.AluTell", spec := "aluTell", apart := false }
def AluTellSaid : Prop := aluTellRow.holds Try.pinned (OpenSpec.ofChange aluTellSpec)

/-- ITS FALSE NEIGHBOUR: 'it returns false'. Refute it at one input. -/
def aluTellWrong : ChangeSpec := { name := "aluTell", fn := fun _ => fun
  | [d1, d2, d3] => { results := [.lit (.bool false)], args := [d1, d2, d3] }
  | _ => none }
def AluTellWrongFalsely : Prop := aluTellRow.holds Try.pinned (OpenSpec.ofChange aluTellWrong)

/-- 'firewalllaw05.AluBack': WHATEVER THE INPUT: true; the input reads as it did. -/
def aluBackSpec : ChangeSpec := { name := "aluBack", fn := fun _ => fun
  | [d1, d2] => { results := [.lit (.bool true)], args := [d1, d2] }
  | _ => none }
def aluBackRow : OpenClaim := { program := "ytaifibnpbkgaiaa", sum := "ce08b6b4015ac746fe15fd56ca4abe278b8e681f9684894cab374ea0e00511a0", func := "firewall/firewalllaw05.AluBack", spec := "aluBack", apart := false }
def AluBackSaid : Prop := aluBackRow.holds Try.pinned (OpenSpec.ofChange aluBackSpec)

/-- ITS FALSE NEIGHBOUR: 'it returns false'. Refute it at one input. -/
def aluBackWrong : ChangeSpec := { name := "aluBack", fn := fun _ => fun
  | [d1, d2] => { results := [.lit (.bool false)], args := [d1, d2] }
  | _ => none }
def AluBackWrongFalsely : Prop := aluBackRow.holds Try.pinned (OpenSpec.ofChange aluBackWrong)

/-- 'firewalllaw05.AluParted': WHATEVER THE INPUT: true; the input reads as it did. -/
def aluPartedSpec : ChangeSpec := { name := "aluParted", fn := fun _ => fun
  | [d1, d2] => { results := [.lit (.bool true)], args := [d1, d2] }
  | _ => none }
def aluPartedRow : OpenClaim := { program := "ytaifibnpbkgaiaa", sum := "ce08b6b4015ac746fe15fd56ca4abe278b8e681f9684894cab374ea0e00511a0", func := "firewall/firewalllaw05.AluParted", spec := "aluParted", apart := false }
def AluPartedSaid : Prop := aluPartedRow.holds Try.pinned (OpenSpec.ofChange aluPartedSpec)

/-- ITS FALSE NEIGHBOUR: 'it returns false'. Refute it at one input. -/
def aluPartedWrong : ChangeSpec := { name := "aluParted", fn := fun _ => fun
  | [d1, d2] => { results := [.lit (.bool false)], args := [d1, d2] }
  | _ => none }
def AluPartedWrongFalsely : Prop := aluPartedRow.holds Try.pinned (OpenSpec.ofChange aluPartedWrong)

/-- 'firewalllaw05.AluHalf': WHATEVER THE INPUT: true; the input reads as it did. -/
def aluHalfSpec : ChangeSpec := { name := "aluHalf", fn := fun _ => fun
  | [d1, d2, d3] => { results := [.lit (.bool true)], args := [d1, d2, d3] }
  | _ => none }
def aluHalfRow : OpenClaim := { program := "ytaifibnpbkgaiaa", sum := "ce08b6b4015ac746fe15fd56ca4abe278b8e681f9684894cab374ea0e00511a0", func := "firewall/firewalllaw05.AluHalf", spec := "aluHalf", apart := false }
def AluHalfSaid : Prop := aluHalfRow.holds Try.pinned (OpenSpec.ofChange aluHalfSpec)

/-- ITS FALSE NEIGHBOUR: 'it returns false'. Refute it at one input. -/
def aluHalfWrong : ChangeSpec := { name := "aluHalf", fn := fun _ => fun
  | [d1, d2, d3] => { results := [.lit (.bool false)], args := [d1, d2, d3] }
  | _ => none }
def AluHalfWrongFalsely : Prop := aluHalfRow.holds Try.pinned (OpenSpec.ofChange aluHalfWrong)

/-- 'firewalllaw05.AluShifts': WHATEVER THE INPUT: true; the input reads as it did. -/
def aluShiftsSpec : ChangeSpec := { name := "aluShifts", fn := fun _ => fun
  | [d1, d2] => { results := [.lit (.bool true)], args := [d1, d2] }
  | _ => none }
def aluShiftsRow : OpenClaim := { program := "ytaifibnpbkgaiaa", sum := "ce08b6b4015ac746fe15fd56ca4abe278b8e681f9684894cab374ea0e00511a0", func := "firewall/firewalllaw05.AluShifts", spec := "aluShifts", apart := false }
def AluShiftsSaid : Prop := aluShiftsRow.holds Try.pinned (OpenSpec.ofChange aluShiftsSpec)

/-- ITS FALSE NEIGHBOUR: 'it returns false'. Refute it at one input. -/
def aluShiftsWrong : ChangeSpec := { name := "aluShifts", fn := fun _ => fun
  | [d1, d2] => { results := [.lit (.bool false)], args := [d1, d2] }
  | _ => none }
def AluShiftsWrongFalsely : Prop := aluShiftsRow.holds Try.pinned (OpenSpec.ofChange aluShiftsWrong)

/- THE SECOND FORM. 'bulk': how many values and letters a reading holds, each counted each time it is reached (what is shared counts as often as it is met; a slice's spare places count too). A statement '..UptoSaid' is the law's where the arguments, and the package variables that the reading takes, are together of bulk at most 1048576: NARROWER than '..Said'. Prove '..Said' where nothing that the law and all that it calls make is longer than what came in: it says more and counts as full. Else prove '..UptoSaid'. A law counts once. -/
mutual
def uptoBulk {H : Type} : DataW H → Nat
  | .lit (.string bytes) => bytes.length + 1
  | .lit _ => 1
  | .nil => 1
  | .ptr d => uptoBulk d + 1
  | .slice elems spare => uptoBulkAll elems + uptoBulkAll spare + 1
  | .agg parts => uptoBulkAll parts + 1
  | .iface _ d => uptoBulk d + 1
  | .map entries => uptoBulkEntries entries + 1
  | .held _ => 1
def uptoBulkAll {H : Type} : List (DataW H) → Nat
  | [] => 0
  | d :: r => uptoBulk d + uptoBulkAll r
def uptoBulkEntries {H : Type} : List (Lit × DataW H) → Nat
  | [] => 0
  | x :: r => uptoBulkEntry x + uptoBulkEntries r
def uptoBulkEntry {H : Type} : Lit × DataW H → Nat
  | (.string bytes, d) => bytes.length + uptoBulk d + 1
  | (_, d) => uptoBulk d + 1
 end
def uptoSmall : (H : Type) → List (DataW H) → Bool := fun _ ds => decide (uptoBulkAll ds ≤ 1048576)
def OpenSpec.upto (s : _root_.Go.ChangeSpec) : _root_.Go.OpenSpec := { _root_.Go.OpenSpec.ofChange s with cond := some uptoSmall }

/-- 'firewalllaw01.NumsTell', WHERE WHAT IT READS IS OF BULK AT MOST 1048576: true; the input reads as it did. -/
def numsTellUptoRow : OpenClaim := { program := "ytaifibnpbkgaiaa", sum := "ce08b6b4015ac746fe15fd56ca4abe278b8e681f9684894cab374ea0e00511a0", func := "firewall/firewalllaw01.NumsTell", spec := "numsTell", apart := false, narrowed := true }
def NumsTellUptoSaid : Prop := numsTellUptoRow.holds Try.pinned (OpenSpec.upto numsTellSpec)

/-- 'firewalllaw01.NumsParts', WHERE WHAT IT READS IS OF BULK AT MOST 1048576: true; the input reads as it did. -/
def numsPartsUptoRow : OpenClaim := { program := "ytaifibnpbkgaiaa", sum := "ce08b6b4015ac746fe15fd56ca4abe278b8e681f9684894cab374ea0e00511a0", func := "firewall/firewalllaw01.NumsParts", spec := "numsParts", apart := false, narrowed := true }
def NumsPartsUptoSaid : Prop := numsPartsUptoRow.holds Try.pinned (OpenSpec.upto numsPartsSpec)

/-- 'firewalllaw01.NumsBack', WHERE WHAT IT READS IS OF BULK AT MOST 1048576: true; the input reads as it did. -/
def numsBackUptoRow : OpenClaim := { program := "ytaifibnpbkgaiaa", sum := "ce08b6b4015ac746fe15fd56ca4abe278b8e681f9684894cab374ea0e00511a0", func := "firewall/firewalllaw01.NumsBack", spec := "numsBack", apart := false, narrowed := true }
def NumsBackUptoSaid : Prop := numsBackUptoRow.holds Try.pinned (OpenSpec.upto numsBackSpec)

/-- 'firewalllaw01.NumsSign', WHERE WHAT IT READS IS OF BULK AT MOST 1048576: true; the input reads as it did. -/
def numsSignUptoRow : OpenClaim := { program := "ytaifibnpbkgaiaa", sum := "ce08b6b4015ac746fe15fd56ca4abe278b8e681f9684894cab374ea0e00511a0", func := "firewall/firewalllaw01.NumsSign", spec := "numsSign", apart := false, narrowed := true }
def NumsSignUptoSaid : Prop := numsSignUptoRow.holds Try.pinned (OpenSpec.upto numsSignSpec)

/-- 'firewalllaw05.AluTell', WHERE WHAT IT READS IS OF BULK AT MOST 1048576: true; the input reads as it did. -/
def aluTellUptoRow : OpenClaim := { program := "ytaifibnpbkgaiaa", sum := "ce08b6b4015ac746fe15fd56ca4abe278b8e681f9684894cab374ea0e00511a0", func := "firewall/firewalllaw05.AluTell", spec := "aluTell", apart := false, narrowed := true }
def AluTellUptoSaid : Prop := aluTellUptoRow.holds Try.pinned (OpenSpec.upto aluTellSpec)

/-- 'firewalllaw05.AluBack', WHERE WHAT IT READS IS OF BULK AT MOST 1048576: true; the input reads as it did. -/
def aluBackUptoRow : OpenClaim := { program := "ytaifibnpbkgaiaa", sum := "ce08b6b4015ac746fe15fd56ca4abe278b8e681f9684894cab374ea0e00511a0", func := "firewall/firewalllaw05.AluBack", spec := "aluBack", apart := false, narrowed := true }
def AluBackUptoSaid : Prop := aluBackUptoRow.holds Try.pinned (OpenSpec.upto aluBackSpec)

/-- 'firewalllaw05.AluParted', WHERE WHAT IT READS IS OF BULK AT MOST 1048576: true; the input reads as it did. -/
def aluPartedUptoRow : OpenClaim := { program := "ytaifibnpbkgaiaa", sum := "ce08b6b4015ac746fe15fd56ca4abe278b8e681f9684894cab374ea0e00511a0", func := "firewall/firewalllaw05.AluParted", spec := "aluParted", apart := false, narrowed := true }
def AluPartedUptoSaid : Prop := aluPartedUptoRow.holds Try.pinned (OpenSpec.upto aluPartedSpec)

/-- 'firewalllaw05.AluHalf', WHERE WHAT IT READS IS OF BULK AT MOST 1048576: true; the input reads as it did. -/
def aluHalfUptoRow : OpenClaim := { program := "ytaifibnpbkgaiaa", sum := "ce08b6b4015ac746fe15fd56ca4abe278b8e681f9684894cab374ea0e00511a0", func := "firewall/firewalllaw05.AluHalf", spec := "aluHalf", apart := false, narrowed := true }
def AluHalfUptoSaid : Prop := aluHalfUptoRow.holds Try.pinned (OpenSpec.upto aluHalfSpec)

/-- 'firewalllaw05.AluShifts', WHERE WHAT IT READS IS OF BULK AT MOST 1048576: true; the input reads as it did. -/
def aluShiftsUptoRow : OpenClaim := { program := "ytaifibnpbkgaiaa", sum := "ce08b6b4015ac746fe15fd56ca4abe278b8e681f9684894cab374ea0e00511a0", func := "firewall/firewalllaw05.AluShifts", spec := "aluShifts", apart := false, narrowed := true }
def AluShiftsUptoSaid : Prop := aluShiftsUptoRow.holds Try.pinned (OpenSpec.upto aluShiftsSpec)

end Rows
end Go.Proofs.Ytaifibnpbkgaiaa
