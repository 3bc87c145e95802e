/-
  NARROWER THAN 'FOR EVERY INPUT', by the rows' own cells (each row's printed sentence says how): CpuExec: laid · CpuReckons: laid · CpuStays: laid · CodecTell: laid · CodecBytes: laid · CodecBack: laid · CodecOne: laid · CodecUnused: laid · CpuTaken: laid · CpuCompare: laid.
  DERIVED. THE GIVEN ROWS OF THIS SEAT. 10 by the template 'for every input the law returns true; each argument reads behind the call as it read before'; 0 by the template 'total and deterministic' (their statements: YtppankimieopiaaDoorTotals.lean).
  GIVEN WITH THE SEED: the statements are not yours to turn. If you find one false, say at which input.
  Laid BY PROGRAM, IN A SANDBOX (cutbox-rows.mjs): the forced cells as the released guide's own fill.sh prints them over the translation fcd4be8c0720593f… (all of the seat's roots in one cut). By AI agents, Wed Nov 11 2026. No macro, syntax, notation, axiom, sorry.
-/
import Derived.Test.YtppankimieopiaaDoorChecked
import GoSem.Claim
import GoSem.ClaimJoined
import GoSem.ClaimMapViews
import Derived.JoinedTies
import Derived.KernelRfl
namespace Go.Proofs.YtppankimieopiaaDoor
/- THE CELL 'sum', in the pinned program and in every row, IS THE sha256 OF THE DUMP (.gsa) THAT YtppankimieopiaaDoorProg.lean LOADS. Nothing in Lean hashes anything: it is a label: what it is worth is what the hold of that sum in a sandbox is worth. -/
noncomputable def Tryd.pinned : Pinned := { name := "ytppankimieopiaadoor", sum := "fcd4be8c0720593f6d00511ca744c0934bf617c57ed691803022bd1ae8628826", checked := Tryd.checked }
namespace Rows
def none {H : Type} : Left H := { results := [], args := [] }

/- WHAT THE LISTED PACKAGE-LEVEL VARIABLES READ AS WHEN THE CALL BEGINS. Each datum BY PROGRAM (the guide's laid-datum.mjs) off the statement by which the dump's own 'gosem.cut.vars' lays the variable. In a bare row this is a premise. The card (YtppankimieopiaaDoorCards.lean) ties it to the program's text. -/
def laid_firewall_codec_forms {H : Type} : DataW H := .agg [.agg [.lit (.string []), .lit (.int .i64 0), .lit (.int .i64 0), .lit (.int .i64 0), .lit (.int .i64 0), .lit (.bool false), .lit (.bool false)], .agg [.lit (.string [137]), .lit (.int .i64 1), .lit (.int .i64 0), .lit (.int .i64 0), .lit (.int .i64 0), .lit (.bool false), .lit (.bool false)], .agg [.lit (.string [199]), .lit (.int .i64 3), .lit (.int .i64 0), .lit (.int .i64 0), .lit (.int .i64 4), .lit (.bool true), .lit (.bool false)], .agg [.lit (.string [184]), .lit (.int .i64 4), .lit (.int .i64 0), .lit (.int .i64 0), .lit (.int .i64 8), .lit (.bool true), .lit (.bool false)], .agg [.lit (.string [1]), .lit (.int .i64 1), .lit (.int .i64 0), .lit (.int .i64 1), .lit (.int .i64 0), .lit (.bool false), .lit (.bool false)], .agg [.lit (.string [129]), .lit (.int .i64 3), .lit (.int .i64 0), .lit (.int .i64 1), .lit (.int .i64 4), .lit (.bool false), .lit (.bool false)], .agg [.lit (.string [133]), .lit (.int .i64 1), .lit (.int .i64 0), .lit (.int .i64 0), .lit (.int .i64 0), .lit (.bool false), .lit (.bool false)], .agg [.lit (.string [247]), .lit (.int .i64 3), .lit (.int .i64 3), .lit (.int .i64 0), .lit (.int .i64 0), .lit (.bool false), .lit (.bool false)], .agg [.lit (.string [247]), .lit (.int .i64 3), .lit (.int .i64 4), .lit (.int .i64 0), .lit (.int .i64 0), .lit (.bool false), .lit (.bool false)], .agg [.lit (.string [247]), .lit (.int .i64 3), .lit (.int .i64 6), .lit (.int .i64 0), .lit (.int .i64 0), .lit (.bool false), .lit (.bool false)], .agg [.lit (.string [15, 175]), .lit (.int .i64 2), .lit (.int .i64 0), .lit (.int .i64 0), .lit (.int .i64 0), .lit (.bool false), .lit (.bool false)], .agg [.lit (.string [193]), .lit (.int .i64 3), .lit (.int .i64 0), .lit (.int .i64 2), .lit (.int .i64 1), .lit (.bool false), .lit (.bool false)], .agg [.lit (.string [211]), .lit (.int .i64 3), .lit (.int .i64 0), .lit (.int .i64 2), .lit (.int .i64 0), .lit (.bool false), .lit (.bool false)], .agg [.lit (.string []), .lit (.int .i64 5), .lit (.int .i64 0), .lit (.int .i64 0), .lit (.int .i64 0), .lit (.bool false), .lit (.bool false)], .agg [.lit (.string []), .lit (.int .i64 6), .lit (.int .i64 0), .lit (.int .i64 0), .lit (.int .i64 0), .lit (.bool false), .lit (.bool false)], .agg [.lit (.string []), .lit (.int .i64 7), .lit (.int .i64 0), .lit (.int .i64 0), .lit (.int .i64 0), .lit (.bool false), .lit (.bool true)], .agg [.lit (.string []), .lit (.int .i64 7), .lit (.int .i64 0), .lit (.int .i64 0), .lit (.int .i64 0), .lit (.bool false), .lit (.bool true)], .agg [.lit (.string [80]), .lit (.int .i64 4), .lit (.int .i64 0), .lit (.int .i64 0), .lit (.int .i64 0), .lit (.bool false), .lit (.bool true)], .agg [.lit (.string [88]), .lit (.int .i64 4), .lit (.int .i64 0), .lit (.int .i64 0), .lit (.int .i64 0), .lit (.bool false), .lit (.bool true)], .agg [.lit (.string [195]), .lit (.int .i64 0), .lit (.int .i64 0), .lit (.int .i64 0), .lit (.int .i64 0), .lit (.bool false), .lit (.bool true)], .agg [.lit (.string [232]), .lit (.int .i64 7), .lit (.int .i64 0), .lit (.int .i64 0), .lit (.int .i64 0), .lit (.bool false), .lit (.bool true)], .agg [.lit (.string [15, 174, 232]), .lit (.int .i64 0), .lit (.int .i64 0), .lit (.int .i64 0), .lit (.int .i64 0), .lit (.bool false), .lit (.bool true)]]
def laid_firewall_codec_loads {H : Type} : DataW H := .map [(.int .i64 1, .lit (.string [15, 182])), (.int .i64 2, .lit (.string [15, 183])), (.int .i64 4, .lit (.string [139])), (.int .i64 8, .lit (.string [139]))]
def laid_firewall_codec_conds {H : Type} : DataW H := .slice [.lit (.int .i64 2), .lit (.int .i64 3), .lit (.int .i64 4), .lit (.int .i64 5), .lit (.int .i64 6), .lit (.int .i64 7), .lit (.int .i64 12), .lit (.int .i64 13), .lit (.int .i64 14), .lit (.int .i64 15)] []
def laid_firewall_cpu_does {H : Type} : DataW H := .map [(.int .i64 0, .lit (.int .u8 0)), (.int .i64 1, .lit (.int .u8 64)), (.int .i64 4, .lit (.int .u8 80)), (.int .i64 5, .lit (.int .u8 16)), (.int .i64 6, .lit (.int .u8 160)), (.int .i64 7, .lit (.int .u8 16))]
def laid_firewall_cpu_shifts {H : Type} : DataW H := .map [(.int .i64 4, .lit (.int .u8 96)), (.int .i64 5, .lit (.int .u8 112)), (.int .i64 7, .lit (.int .u8 192))]
def laid_firewall_codec_stores {H : Type} : DataW H := .map [(.int .i64 1, .lit (.string [136])), (.int .i64 2, .lit (.string [137])), (.int .i64 4, .lit (.string [137])), (.int .i64 8, .lit (.string [137]))]
def laid_firewall_conds_orders {H : Type} : DataW H := .map [(.int .u8 16, .agg [.lit (.bool false), .lit (.bool true), .lit (.bool false)]), (.int .u8 32, .agg [.lit (.bool false), .lit (.bool false), .lit (.bool true)]), (.int .u8 48, .agg [.lit (.bool false), .lit (.bool true), .lit (.bool true)]), (.int .u8 80, .agg [.lit (.bool true), .lit (.bool false), .lit (.bool true)]), (.int .u8 160, .agg [.lit (.bool true), .lit (.bool false), .lit (.bool false)]), (.int .u8 176, .agg [.lit (.bool true), .lit (.bool true), .lit (.bool false)])]
def laid_firewall_conds_signed {H : Type} : DataW H := .map [(.int .u8 96, .lit (.int .u8 32)), (.int .u8 112, .lit (.int .u8 48)), (.int .u8 192, .lit (.int .u8 160)), (.int .u8 208, .lit (.int .u8 176))]

/-- 'firewalllaw12.CpuExec': WHATEVER THE INPUT: true; the input reads as it did. -/
def cpuExecSpec : ChangeSpec := { name := "cpuExec", fn := fun _ => fun
  | [d1, d2] => { results := [.lit (.bool true)], args := [d1, d2] }
  | _ => none }
def cpuExecRow : OpenClaim := { program := "ytppankimieopiaadoor", sum := "fcd4be8c0720593f6d00511ca744c0934bf617c57ed691803022bd1ae8628826", func := "firewall/firewalllaw12.CpuExec", spec := "cpuExec", unfollowed := true, recurses := true, named := ["firewall/cpu.shifts", "firewall/codec.forms", "firewall/codec.loads", "firewall/codec.conds", "firewall/cpu.does", "math/bits.divideError", "math/bits.overflowError"], apart := false, laid := [("firewall/codec.forms", laid_firewall_codec_forms), ("firewall/codec.loads", laid_firewall_codec_loads), ("firewall/codec.conds", laid_firewall_codec_conds), ("firewall/cpu.does", laid_firewall_cpu_does), ("firewall/cpu.shifts", laid_firewall_cpu_shifts)] }
def CpuExecSaid : Prop := cpuExecRow.holds Tryd.pinned (OpenSpec.ofChange cpuExecSpec)

/-- ITS FALSE NEIGHBOUR: 'it returns false'. Refute it at one input. -/
def cpuExecWrong : ChangeSpec := { name := "cpuExec", fn := fun _ => fun
  | [d1, d2] => { results := [.lit (.bool false)], args := [d1, d2] }
  | _ => none }
def CpuExecWrongFalsely : Prop := cpuExecRow.holds Tryd.pinned (OpenSpec.ofChange cpuExecWrong)

/-- 'firewalllaw12.CpuReckons': WHATEVER THE INPUT: true; the input reads as it did. -/
def cpuReckonsSpec : ChangeSpec := { name := "cpuReckons", fn := fun _ => fun
  | [d1, d2, d3] => { results := [.lit (.bool true)], args := [d1, d2, d3] }
  | _ => none }
def cpuReckonsRow : OpenClaim := { program := "ytppankimieopiaadoor", sum := "fcd4be8c0720593f6d00511ca744c0934bf617c57ed691803022bd1ae8628826", func := "firewall/firewalllaw12.CpuReckons", spec := "cpuReckons", unfollowed := true, recurses := true, named := ["firewall/cpu.shifts", "firewall/codec.forms", "firewall/codec.loads", "firewall/codec.conds", "firewall/cpu.does", "math/bits.divideError", "math/bits.overflowError"], apart := false, laid := [("firewall/codec.forms", laid_firewall_codec_forms), ("firewall/codec.loads", laid_firewall_codec_loads), ("firewall/codec.conds", laid_firewall_codec_conds), ("firewall/cpu.does", laid_firewall_cpu_does), ("firewall/cpu.shifts", laid_firewall_cpu_shifts)] }
def CpuReckonsSaid : Prop := cpuReckonsRow.holds Tryd.pinned (OpenSpec.ofChange cpuReckonsSpec)

/-- ITS FALSE NEIGHBOUR: 'it returns false'. Refute it at one input. -/
def cpuReckonsWrong : ChangeSpec := { name := "cpuReckons", fn := fun _ => fun
  | [d1, d2, d3] => { results := [.lit (.bool false)], args := [d1, d2, d3] }
  | _ => none }
def CpuReckonsWrongFalsely : Prop := cpuReckonsRow.holds Tryd.pinned (OpenSpec.ofChange cpuReckonsWrong)

/-- 'firewalllaw12.CpuStays': WHATEVER THE INPUT: true; the input reads as it did. -/
def cpuStaysSpec : ChangeSpec := { name := "cpuStays", fn := fun _ => fun
  | [d1, d2] => { results := [.lit (.bool true)], args := [d1, d2] }
  | _ => none }
def cpuStaysRow : OpenClaim := { program := "ytppankimieopiaadoor", sum := "fcd4be8c0720593f6d00511ca744c0934bf617c57ed691803022bd1ae8628826", func := "firewall/firewalllaw12.CpuStays", spec := "cpuStays", unfollowed := true, recurses := true, named := ["firewall/cpu.shifts", "firewall/codec.forms", "firewall/codec.loads", "firewall/codec.conds", "firewall/cpu.does", "math/bits.divideError", "math/bits.overflowError"], apart := false, laid := [("firewall/codec.forms", laid_firewall_codec_forms), ("firewall/codec.loads", laid_firewall_codec_loads), ("firewall/codec.conds", laid_firewall_codec_conds), ("firewall/cpu.does", laid_firewall_cpu_does), ("firewall/cpu.shifts", laid_firewall_cpu_shifts)] }
def CpuStaysSaid : Prop := cpuStaysRow.holds Tryd.pinned (OpenSpec.ofChange cpuStaysSpec)

/-- ITS FALSE NEIGHBOUR: 'it returns false'. Refute it at one input. -/
def cpuStaysWrong : ChangeSpec := { name := "cpuStays", fn := fun _ => fun
  | [d1, d2] => { results := [.lit (.bool false)], args := [d1, d2] }
  | _ => none }
def CpuStaysWrongFalsely : Prop := cpuStaysRow.holds Tryd.pinned (OpenSpec.ofChange cpuStaysWrong)

/-- 'firewalllaw11.CodecTell': WHATEVER THE INPUT: true; the input reads as it did. -/
def codecTellSpec : ChangeSpec := { name := "codecTell", fn := fun _ => fun
  | [d] => { results := [.lit (.bool true)], args := [d] }
  | _ => none }
def codecTellRow : OpenClaim := { program := "ytppankimieopiaadoor", sum := "fcd4be8c0720593f6d00511ca744c0934bf617c57ed691803022bd1ae8628826", func := "firewall/firewalllaw11.CodecTell", spec := "codecTell", named := ["firewall/codec.forms", "firewall/codec.loads", "firewall/codec.conds", "firewall/codec.stores"], apart := false, laid := [("firewall/codec.forms", laid_firewall_codec_forms), ("firewall/codec.loads", laid_firewall_codec_loads), ("firewall/codec.stores", laid_firewall_codec_stores), ("firewall/codec.conds", laid_firewall_codec_conds)] }
def CodecTellSaid : Prop := codecTellRow.holds Tryd.pinned (OpenSpec.ofChange codecTellSpec)

/-- ITS FALSE NEIGHBOUR: 'it returns false'. Refute it at one input. -/
def codecTellWrong : ChangeSpec := { name := "codecTell", fn := fun _ => fun
  | [d] => { results := [.lit (.bool false)], args := [d] }
  | _ => none }
def CodecTellWrongFalsely : Prop := codecTellRow.holds Tryd.pinned (OpenSpec.ofChange codecTellWrong)

/-- 'firewalllaw11.CodecBytes': WHATEVER THE INPUT: true; the input reads as it did. -/
def codecBytesSpec : ChangeSpec := { name := "codecBytes", fn := fun _ => fun
  | [d1, d2] => { results := [.lit (.bool true)], args := [d1, d2] }
  | _ => none }
def codecBytesRow : OpenClaim := { program := "ytppankimieopiaadoor", sum := "fcd4be8c0720593f6d00511ca744c0934bf617c57ed691803022bd1ae8628826", func := "firewall/firewalllaw11.CodecBytes", spec := "codecBytes", named := ["firewall/codec.forms", "firewall/codec.loads", "firewall/codec.conds", "firewall/codec.stores"], apart := false, laid := [("firewall/codec.forms", laid_firewall_codec_forms), ("firewall/codec.loads", laid_firewall_codec_loads), ("firewall/codec.stores", laid_firewall_codec_stores), ("firewall/codec.conds", laid_firewall_codec_conds)] }
def CodecBytesSaid : Prop := codecBytesRow.holds Tryd.pinned (OpenSpec.ofChange codecBytesSpec)

/-- ITS FALSE NEIGHBOUR: 'it returns false'. Refute it at one input. -/
def codecBytesWrong : ChangeSpec := { name := "codecBytes", fn := fun _ => fun
  | [d1, d2] => { results := [.lit (.bool false)], args := [d1, d2] }
  | _ => none }
def CodecBytesWrongFalsely : Prop := codecBytesRow.holds Tryd.pinned (OpenSpec.ofChange codecBytesWrong)

/-- 'firewalllaw11.CodecBack': WHATEVER THE INPUT: true; the input reads as it did. -/
def codecBackSpec : ChangeSpec := { name := "codecBack", fn := fun _ => fun
  | [d1, d2, d3] => { results := [.lit (.bool true)], args := [d1, d2, d3] }
  | _ => none }
def codecBackRow : OpenClaim := { program := "ytppankimieopiaadoor", sum := "fcd4be8c0720593f6d00511ca744c0934bf617c57ed691803022bd1ae8628826", func := "firewall/firewalllaw11.CodecBack", spec := "codecBack", named := ["firewall/codec.forms", "firewall/codec.loads", "firewall/codec.conds", "firewall/codec.stores"], apart := false, laid := [("firewall/codec.forms", laid_firewall_codec_forms), ("firewall/codec.loads", laid_firewall_codec_loads), ("firewall/codec.stores", laid_firewall_codec_stores), ("firewall/codec.conds", laid_firewall_codec_conds)] }
def CodecBackSaid : Prop := codecBackRow.holds Tryd.pinned (OpenSpec.ofChange codecBackSpec)

/-- ITS FALSE NEIGHBOUR: 'it returns false'. Refute it at one input. -/
def codecBackWrong : ChangeSpec := { name := "codecBack", fn := fun _ => fun
  | [d1, d2, d3] => { results := [.lit (.bool false)], args := [d1, d2, d3] }
  | _ => none }
def CodecBackWrongFalsely : Prop := codecBackRow.holds Tryd.pinned (OpenSpec.ofChange codecBackWrong)

/-- 'firewalllaw11.CodecOne': WHATEVER THE INPUT: true; the input reads as it did. -/
def codecOneSpec : ChangeSpec := { name := "codecOne", fn := fun _ => fun
  | [d1, d2] => { results := [.lit (.bool true)], args := [d1, d2] }
  | _ => none }
def codecOneRow : OpenClaim := { program := "ytppankimieopiaadoor", sum := "fcd4be8c0720593f6d00511ca744c0934bf617c57ed691803022bd1ae8628826", func := "firewall/firewalllaw11.CodecOne", spec := "codecOne", named := ["firewall/codec.forms", "firewall/codec.loads", "firewall/codec.conds", "firewall/codec.stores"], apart := false, laid := [("firewall/codec.forms", laid_firewall_codec_forms), ("firewall/codec.loads", laid_firewall_codec_loads), ("firewall/codec.stores", laid_firewall_codec_stores), ("firewall/codec.conds", laid_firewall_codec_conds)] }
def CodecOneSaid : Prop := codecOneRow.holds Tryd.pinned (OpenSpec.ofChange codecOneSpec)

/-- ITS FALSE NEIGHBOUR: 'it returns false'. Refute it at one input. -/
def codecOneWrong : ChangeSpec := { name := "codecOne", fn := fun _ => fun
  | [d1, d2] => { results := [.lit (.bool false)], args := [d1, d2] }
  | _ => none }
def CodecOneWrongFalsely : Prop := codecOneRow.holds Tryd.pinned (OpenSpec.ofChange codecOneWrong)

/-- 'firewalllaw11.CodecUnused': WHATEVER THE INPUT: true; the input reads as it did. -/
def codecUnusedSpec : ChangeSpec := { name := "codecUnused", fn := fun _ => fun
  | [d1, d2, d3] => { results := [.lit (.bool true)], args := [d1, d2, d3] }
  | _ => none }
def codecUnusedRow : OpenClaim := { program := "ytppankimieopiaadoor", sum := "fcd4be8c0720593f6d00511ca744c0934bf617c57ed691803022bd1ae8628826", func := "firewall/firewalllaw11.CodecUnused", spec := "codecUnused", named := ["firewall/codec.forms", "firewall/codec.loads", "firewall/codec.conds", "firewall/codec.stores"], apart := false, laid := [("firewall/codec.forms", laid_firewall_codec_forms), ("firewall/codec.loads", laid_firewall_codec_loads), ("firewall/codec.stores", laid_firewall_codec_stores), ("firewall/codec.conds", laid_firewall_codec_conds)] }
def CodecUnusedSaid : Prop := codecUnusedRow.holds Tryd.pinned (OpenSpec.ofChange codecUnusedSpec)

/-- ITS FALSE NEIGHBOUR: 'it returns false'. Refute it at one input. -/
def codecUnusedWrong : ChangeSpec := { name := "codecUnused", fn := fun _ => fun
  | [d1, d2, d3] => { results := [.lit (.bool false)], args := [d1, d2, d3] }
  | _ => none }
def CodecUnusedWrongFalsely : Prop := codecUnusedRow.holds Tryd.pinned (OpenSpec.ofChange codecUnusedWrong)

/-- 'firewalllaw12.CpuTaken': WHATEVER THE INPUT: true; the input reads as it did. -/
def cpuTakenSpec : ChangeSpec := { name := "cpuTaken", fn := fun _ => fun
  | [d1, d2] => { results := [.lit (.bool true)], args := [d1, d2] }
  | _ => none }
def cpuTakenRow : OpenClaim := { program := "ytppankimieopiaadoor", sum := "fcd4be8c0720593f6d00511ca744c0934bf617c57ed691803022bd1ae8628826", func := "firewall/firewalllaw12.CpuTaken", spec := "cpuTaken", unfollowed := true, recurses := true, named := ["firewall/cpu.shifts", "firewall/codec.forms", "firewall/codec.loads", "firewall/codec.conds", "firewall/cpu.does", "math/bits.divideError", "math/bits.overflowError"], apart := false, laid := [("firewall/codec.forms", laid_firewall_codec_forms), ("firewall/codec.loads", laid_firewall_codec_loads), ("firewall/codec.conds", laid_firewall_codec_conds), ("firewall/cpu.does", laid_firewall_cpu_does), ("firewall/cpu.shifts", laid_firewall_cpu_shifts)] }
def CpuTakenSaid : Prop := cpuTakenRow.holds Tryd.pinned (OpenSpec.ofChange cpuTakenSpec)

/-- ITS FALSE NEIGHBOUR: 'it returns false'. Refute it at one input. -/
def cpuTakenWrong : ChangeSpec := { name := "cpuTaken", fn := fun _ => fun
  | [d1, d2] => { results := [.lit (.bool false)], args := [d1, d2] }
  | _ => none }
def CpuTakenWrongFalsely : Prop := cpuTakenRow.holds Tryd.pinned (OpenSpec.ofChange cpuTakenWrong)

/-- 'firewalllaw12.CpuCompare': WHATEVER THE INPUT: true; the input reads as it did. -/
def cpuCompareSpec : ChangeSpec := { name := "cpuCompare", fn := fun _ => fun
  | [d1, d2, d3] => { results := [.lit (.bool true)], args := [d1, d2, d3] }
  | _ => none }
def cpuCompareRow : OpenClaim := { program := "ytppankimieopiaadoor", sum := "fcd4be8c0720593f6d00511ca744c0934bf617c57ed691803022bd1ae8628826", func := "firewall/firewalllaw12.CpuCompare", spec := "cpuCompare", unfollowed := true, recurses := true, named := ["firewall/cpu.shifts", "firewall/codec.forms", "firewall/codec.loads", "firewall/codec.conds", "firewall/cpu.does", "math/bits.divideError", "math/bits.overflowError", "firewall/conds.signed", "firewall/conds.orders"], apart := false, laid := [("firewall/conds.orders", laid_firewall_conds_orders), ("firewall/conds.signed", laid_firewall_conds_signed), ("firewall/codec.forms", laid_firewall_codec_forms), ("firewall/codec.loads", laid_firewall_codec_loads), ("firewall/codec.conds", laid_firewall_codec_conds), ("firewall/cpu.does", laid_firewall_cpu_does), ("firewall/cpu.shifts", laid_firewall_cpu_shifts)] }
def CpuCompareSaid : Prop := cpuCompareRow.holds Tryd.pinned (OpenSpec.ofChange cpuCompareSpec)

/-- ITS FALSE NEIGHBOUR: 'it returns false'. Refute it at one input. -/
def cpuCompareWrong : ChangeSpec := { name := "cpuCompare", fn := fun _ => fun
  | [d1, d2, d3] => { results := [.lit (.bool false)], args := [d1, d2, d3] }
  | _ => none }
def CpuCompareWrongFalsely : Prop := cpuCompareRow.holds Tryd.pinned (OpenSpec.ofChange cpuCompareWrong)

/- THE SECOND FORM. 'bulk': how many values and letters a reading holds, each counted each time it is reached (what is shared counts as often as it is met; a slice's spare places count too). A statement '..UptoSaid' is the law's where the arguments, and the package variables that the reading takes, are together of bulk at most 1048576: NARROWER than '..Said'. Prove '..Said' where nothing that the law and all that it calls make is longer than what came in: it says more and counts as full. Else prove '..UptoSaid'. A law counts once. -/
mutual
def uptoBulk {H : Type} : DataW H → Nat
  | .lit (.string bytes) => bytes.length + 1
  | .lit _ => 1
  | .nil => 1
  | .ptr d => uptoBulk d + 1
  | .slice elems spare => uptoBulkAll elems + uptoBulkAll spare + 1
  | .agg parts => uptoBulkAll parts + 1
  | .iface _ d => uptoBulk d + 1
  | .map entries => uptoBulkEntries entries + 1
  | .held _ => 1
def uptoBulkAll {H : Type} : List (DataW H) → Nat
  | [] => 0
  | d :: r => uptoBulk d + uptoBulkAll r
def uptoBulkEntries {H : Type} : List (Lit × DataW H) → Nat
  | [] => 0
  | x :: r => uptoBulkEntry x + uptoBulkEntries r
def uptoBulkEntry {H : Type} : Lit × DataW H → Nat
  | (.string bytes, d) => bytes.length + uptoBulk d + 1
  | (_, d) => uptoBulk d + 1
 end
def uptoSmall : (H : Type) → List (DataW H) → Bool := fun _ ds => decide (uptoBulkAll ds ≤ 1048576)
def OpenSpec.upto (s : _root_.Go.ChangeSpec) : _root_.Go.OpenSpec := { _root_.Go.OpenSpec.ofChange s with cond := some uptoSmall }

/-- 'firewalllaw12.CpuExec', WHERE WHAT IT READS IS OF BULK AT MOST 1048576: true; the input reads as it did. -/
def cpuExecUptoRow : OpenClaim := { program := "ytppankimieopiaadoor", sum := "fcd4be8c0720593f6d00511ca744c0934bf617c57ed691803022bd1ae8628826", func := "firewall/firewalllaw12.CpuExec", spec := "cpuExec", unfollowed := true, recurses := true, named := ["firewall/cpu.shifts", "firewall/codec.forms", "firewall/codec.loads", "firewall/codec.conds", "firewall/cpu.does", "math/bits.divideError", "math/bits.overflowError"], apart := false, laid := [("firewall/codec.forms", laid_firewall_codec_forms), ("firewall/codec.loads", laid_firewall_codec_loads), ("firewall/codec.conds", laid_firewall_codec_conds), ("firewall/cpu.does", laid_firewall_cpu_does), ("firewall/cpu.shifts", laid_firewall_cpu_shifts)], narrowed := true }
def CpuExecUptoSaid : Prop := cpuExecUptoRow.holds Tryd.pinned (OpenSpec.upto cpuExecSpec)

/-- 'firewalllaw12.CpuReckons', WHERE WHAT IT READS IS OF BULK AT MOST 1048576: true; the input reads as it did. -/
def cpuReckonsUptoRow : OpenClaim := { program := "ytppankimieopiaadoor", sum := "fcd4be8c0720593f6d00511ca744c0934bf617c57ed691803022bd1ae8628826", func := "firewall/firewalllaw12.CpuReckons", spec := "cpuReckons", unfollowed := true, recurses := true, named := ["firewall/cpu.shifts", "firewall/codec.forms", "firewall/codec.loads", "firewall/codec.conds", "firewall/cpu.does", "math/bits.divideError", "math/bits.overflowError"], apart := false, laid := [("firewall/codec.forms", laid_firewall_codec_forms), ("firewall/codec.loads", laid_firewall_codec_loads), ("firewall/codec.conds", laid_firewall_codec_conds), ("firewall/cpu.does", laid_firewall_cpu_does), ("firewall/cpu.shifts", laid_firewall_cpu_shifts)], narrowed := true }
def CpuReckonsUptoSaid : Prop := cpuReckonsUptoRow.holds Tryd.pinned (OpenSpec.upto cpuReckonsSpec)

/-- 'firewalllaw12.CpuStays', WHERE WHAT IT READS IS OF BULK AT MOST 1048576: true; the input reads as it did. -/
def cpuStaysUptoRow : OpenClaim := { program := "ytppankimieopiaadoor", sum := "fcd4be8c0720593f6d00511ca744c0934bf617c57ed691803022bd1ae8628826", func := "firewall/firewalllaw12.CpuStays", spec := "cpuStays", unfollowed := true, recurses := true, named := ["firewall/cpu.shifts", "firewall/codec.forms", "firewall/codec.loads", "firewall/codec.conds", "firewall/cpu.does", "math/bits.divideError", "math/bits.overflowError"], apart := false, laid := [("firewall/codec.forms", laid_firewall_codec_forms), ("firewall/codec.loads", laid_firewall_codec_loads), ("firewall/codec.conds", laid_firewall_codec_conds), ("firewall/cpu.does", laid_firewall_cpu_does), ("firewall/cpu.shifts", laid_firewall_cpu_shifts)], narrowed := true }
def CpuStaysUptoSaid : Prop := cpuStaysUptoRow.holds Tryd.pinned (OpenSpec.upto cpuStaysSpec)

/-- 'firewalllaw11.CodecTell', WHERE WHAT IT READS IS OF BULK AT MOST 1048576: true; the input reads as it did. -/
def codecTellUptoRow : OpenClaim := { program := "ytppankimieopiaadoor", sum := "fcd4be8c0720593f6d00511ca744c0934bf617c57ed691803022bd1ae8628826", func := "firewall/firewalllaw11.CodecTell", spec := "codecTell", named := ["firewall/codec.forms", "firewall/codec.loads", "firewall/codec.conds", "firewall/codec.stores"], apart := false, laid := [("firewall/codec.forms", laid_firewall_codec_forms), ("firewall/codec.loads", laid_firewall_codec_loads), ("firewall/codec.stores", laid_firewall_codec_stores), ("firewall/codec.conds", laid_firewall_codec_conds)], narrowed := true }
def CodecTellUptoSaid : Prop := codecTellUptoRow.holds Tryd.pinned (OpenSpec.upto codecTellSpec)

/-- 'firewalllaw11.CodecBytes', WHERE WHAT IT READS IS OF BULK AT MOST 1048576: true; the input reads as it did. -/
def codecBytesUptoRow : OpenClaim := { program := "ytppankimieopiaadoor", sum := "fcd4be8c0720593f6d00511ca744c0934bf617c57ed691803022bd1ae8628826", func := "firewall/firewalllaw11.CodecBytes", spec := "codecBytes", named := ["firewall/codec.forms", "firewall/codec.loads", "firewall/codec.conds", "firewall/codec.stores"], apart := false, laid := [("firewall/codec.forms", laid_firewall_codec_forms), ("firewall/codec.loads", laid_firewall_codec_loads), ("firewall/codec.stores", laid_firewall_codec_stores), ("firewall/codec.conds", laid_firewall_codec_conds)], narrowed := true }
def CodecBytesUptoSaid : Prop := codecBytesUptoRow.holds Tryd.pinned (OpenSpec.upto codecBytesSpec)

/-- 'firewalllaw11.CodecBack', WHERE WHAT IT READS IS OF BULK AT MOST 1048576: true; the input reads as it did. -/
def codecBackUptoRow : OpenClaim := { program := "ytppankimieopiaadoor", sum := "fcd4be8c0720593f6d00511ca744c0934bf617c57ed691803022bd1ae8628826", func := "firewall/firewalllaw11.CodecBack", spec := "codecBack", named := ["firewall/codec.forms", "firewall/codec.loads", "firewall/codec.conds", "firewall/codec.stores"], apart := false, laid := [("firewall/codec.forms", laid_firewall_codec_forms), ("firewall/codec.loads", laid_firewall_codec_loads), ("firewall/codec.stores", laid_firewall_codec_stores), ("firewall/codec.conds", laid_firewall_codec_conds)], narrowed := true }
def CodecBackUptoSaid : Prop := codecBackUptoRow.holds Tryd.pinned (OpenSpec.upto codecBackSpec)

/-- 'firewalllaw11.CodecOne', WHERE WHAT IT READS IS OF BULK AT MOST 1048576: true; the input reads as it did. -/
def codecOneUptoRow : OpenClaim := { program := "ytppankimieopiaadoor", sum := "fcd4be8c0720593f6d00511ca744c0934bf617c57ed691803022bd1ae8628826", func := "firewall/firewalllaw11.CodecOne", spec := "codecOne", named := ["firewall/codec.forms", "firewall/codec.loads", "firewall/codec.conds", "firewall/codec.stores"], apart := false, laid := [("firewall/codec.forms", laid_firewall_codec_forms), ("firewall/codec.loads", laid_firewall_codec_loads), ("firewall/codec.stores", laid_firewall_codec_stores), ("firewall/codec.conds", laid_firewall_codec_conds)], narrowed := true }
def CodecOneUptoSaid : Prop := codecOneUptoRow.holds Tryd.pinned (OpenSpec.upto codecOneSpec)

/-- 'firewalllaw11.CodecUnused', WHERE WHAT IT READS IS OF BULK AT MOST 1048576: true; the input reads as it did. -/
def codecUnusedUptoRow : OpenClaim := { program := "ytppankimieopiaadoor", sum := "fcd4be8c0720593f6d00511ca744c0934bf617c57ed691803022bd1ae8628826", func := "firewall/firewalllaw11.CodecUnused", spec := "codecUnused", named := ["firewall/codec.forms", "firewall/codec.loads", "firewall/codec.conds", "firewall/codec.stores"], apart := false, laid := [("firewall/codec.forms", laid_firewall_codec_forms), ("firewall/codec.loads", laid_firewall_codec_loads), ("firewall/codec.stores", laid_firewall_codec_stores), ("firewall/codec.conds", laid_firewall_codec_conds)], narrowed := true }
def CodecUnusedUptoSaid : Prop := codecUnusedUptoRow.holds Tryd.pinned (OpenSpec.upto codecUnusedSpec)

/-- 'firewalllaw12.CpuTaken', WHERE WHAT IT READS IS OF BULK AT MOST 1048576: true; the input reads as it did. -/
def cpuTakenUptoRow : OpenClaim := { program := "ytppankimieopiaadoor", sum := "fcd4be8c0720593f6d00511ca744c0934bf617c57ed691803022bd1ae8628826", func := "firewall/firewalllaw12.CpuTaken", spec := "cpuTaken", unfollowed := true, recurses := true, named := ["firewall/cpu.shifts", "firewall/codec.forms", "firewall/codec.loads", "firewall/codec.conds", "firewall/cpu.does", "math/bits.divideError", "math/bits.overflowError"], apart := false, laid := [("firewall/codec.forms", laid_firewall_codec_forms), ("firewall/codec.loads", laid_firewall_codec_loads), ("firewall/codec.conds", laid_firewall_codec_conds), ("firewall/cpu.does", laid_firewall_cpu_does), ("firewall/cpu.shifts", laid_firewall_cpu_shifts)], narrowed := true }
def CpuTakenUptoSaid : Prop := cpuTakenUptoRow.holds Tryd.pinned (OpenSpec.upto cpuTakenSpec)

/-- 'firewalllaw12.CpuCompare', WHERE WHAT IT READS IS OF BULK AT MOST 1048576: true; the input reads as it did. -/
def cpuCompareUptoRow : OpenClaim := { program := "ytppankimieopiaadoor", sum := "fcd4be8c0720593f6d00511ca744c0934bf617c57ed691803022bd1ae8628826", func := "firewall/firewalllaw12.CpuCompare", spec := "cpuCompare", unfollowed := true, recurses := true, named := ["firewall/cpu.shifts", "firewall/codec.forms", "firewall/codec.loads", "firewall/codec.conds", "firewall/cpu.does", "math/bits.divideError", "math/bits.overflowError", "firewall/conds.signed", "firewall/conds.orders"], apart := false, laid := [("firewall/conds.orders", laid_firewall_conds_orders), ("firewall/conds.signed", laid_firewall_conds_signed), ("firewall/codec.forms", laid_firewall_codec_forms), ("firewall/codec.loads", laid_firewall_codec_loads), ("firewall/codec.conds", laid_firewall_codec_conds), ("firewall/cpu.does", laid_firewall_cpu_does), ("firewall/cpu.shifts", laid_firewall_cpu_shifts)], narrowed := true }
def CpuCompareUptoSaid : Prop := cpuCompareUptoRow.holds Tryd.pinned (OpenSpec.upto cpuCompareSpec)

end Rows
end Go.Proofs.YtppankimieopiaaDoor
