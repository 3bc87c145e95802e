/-
  Instructions: what package insns makes of an opcode and of fields, as bit vectors. Plain definitions and facts. Conditions: none.
-/
import Derived.Test.YthkgakelgdncjaaDoorPs
namespace Go.Proofs.YthkgakelgdncjaaDoor
open Go.Ep Go.RowKit
set_option linter.unusedVariables false
set_option linter.unusedSimpArgs false

abbrev oc (o : BitVec 8) : BitVec 8 := o &&& 240#8
abbrev orr (o : BitVec 8) : Bool := o &&& 8#8 != 0#8
def isA (o : BitVec 8) : Bool := o &&& 7#8 == 4#8 || o &&& 7#8 == 7#8
def isJ (o : BitVec 8) : Bool := o &&& 7#8 == 5#8 || o &&& 7#8 == 6#8
def isLd (o : BitVec 8) : Bool := o == 24#8
def isLx (o : BitVec 8) : Bool := o == 113#8 || o == 105#8 || o == 97#8 || o == 121#8
def isSt (o : BitVec 8) : Bool := o == 114#8 || o == 106#8 || o == 98#8 || o == 122#8
def isSx (o : BitVec 8) : Bool := o == 115#8 || o == 107#8 || o == 99#8 || o == 123#8
def isNs (o : BitVec 8) : Bool := o == 194#8
def jAl (o : BitVec 8) : Bool := o &&& 7#8 == 5#8 && o &&& 8#8 == 0#8
def jSp (o : BitVec 8) : Bool := oc o == 0#8 || oc o == 128#8 || oc o == 144#8
def jD (o : BitVec 8) : Bool := !(jSp o)
def jS (o : BitVec 8) : Bool := !(jSp o) && orr o
def jO (o : BitVec 8) : Bool := oc o == 0#8 || !(jSp o)
def jI (o : BitVec 8) : Bool := oc o == 128#8 || !(jSp o) && !(orr o)
def jK (o : BitVec 8) : Bool := if jSp o then jAl o else (oc o).ule 208#8
def fD (o : BitVec 8) : Bool := if isA o then true else if isJ o then jD o else isLd o || isLx o || isSt o || isSx o
def fS (o : BitVec 8) : Bool := if isA o then orr o else if isJ o then jS o else isLd o || isLx o || isSx o
def fO (o : BitVec 8) : Bool := if isA o then false else if isJ o then jO o else isLx o || isSt o || isSx o
def fI (o : BitVec 8) : Bool := if isA o then !(orr o) && !(oc o == 128#8) else if isJ o then jI o else isLd o || isSt o
def fW (o : BitVec 8) : Bool := if isA o then true else if isJ o then false else isLd o || isLx o
def fK (o : BitVec 8) (inner : Bool) : Bool := if isA o then (oc o).ule 192#8 && !(oc o == 128#8 && orr o) else if isJ o then jK o else isLd o || isLx o || isSt o || isSx o || isNs o && inner
def iN' (o : BitVec 8) (imm : BitVec 32) : Bool :=
  if isA o then (if oc o == 96#8 || oc o == 112#8 || oc o == 192#8 then (0#32).sle imm && (imm.slt 32#32 || imm.slt 64#32 && o &&& 7#8 == 7#8) else if oc o == 48#8 || oc o == 144#8 then imm != 0#32 else true) else true
def iCheck (o d s : BitVec 8) (off : BitVec 16) (imm : BitVec 32) (inner : Bool) : BitVec 64 :=
  if !(fK o inner) then 20#64 else if (10#8).ult d || (10#8).ult s || fW o && d == 10#8 then 22#64
  else if !(fD o) && d != 0#8 || !(fS o) && s != 0#8 || !(fO o) && off != 0#16 || !(fI o) && imm != 0#32 || o == 24#8 && (1#8).ult s then 21#64
  else if fI o && !(iN' o imm) then 23#64 else 0#64
/-- The bytes of a number. -/
abbrev by8 (v : BitVec 64) (k : Nat) : UInt8 := UInt8.ofBitVec ((v >>> k).setWidth 8)
def bytes2 (v : BitVec 64) : ByteArray := ⟨⟨[by8 v 0, by8 v 8]⟩⟩
def bytes4 (v : BitVec 64) : ByteArray := ⟨⟨[by8 v 0, by8 v 8, by8 v 16, by8 v 24]⟩⟩
def iEnc (o d s : BitVec 8) (off : BitVec 16) (imm : BitVec 32) : ByteArray :=
  ⟨⟨[UInt8.ofBitVec o, UInt8.ofBitVec (s <<< 4 ||| d &&& 15#8), by8 (off.signExtend 64) 0, by8 (off.signExtend 64) 8, by8 (imm.signExtend 64) 0, by8 (imm.signExtend 64) 8, by8 (imm.signExtend 64) 16, by8 (imm.signExtend 64) 24]⟩⟩
theorem all8 {p : BitVec 8 → Bool} (h : ((List.range 256).all fun n => p (BitVec.ofNat 8 n)) = true) (o : BitVec 8) : p o = true := by
  have := List.all_eq_true.1 h o.toNat (List.mem_range.2 o.isLt)
  simpa using this
end Go.Proofs.YthkgakelgdncjaaDoor
