/-
  What functions of one byte answer, reckoned for each byte: for the closed runs of chapter 04's examples. Conditions: none.
-/
import Derived.Test.YtdaioplfgbgggaaZs
import Derived.Test.YtdaioplfgbgggaaPu
namespace Go.Proofs.Ytdaioplfgbgggaa
open Go.Ep Go.RowKit
abbrev tb_z0 : List (Nat × Sp) := []
theorem C_z0 : CSound Try.prog anyWorld (tab noData tb_z0) := CSound.start
def strB (l : List UInt8) : L := .str ⟨⟨l⟩⟩
def zOr (a b : Bool) : Bool := match a with | true => true | false => b
def zAnd (a b : Bool) : Bool := match a with | true => b | false => false
def zNum (n : Nat) : L := match Nat.blt n 10 with | true => strB [UInt8.ofNat (48 + n)] | false => strB [49, UInt8.ofNat (38 + n)]
def zReg (n : Nat) : L := match Nat.blt n 10 with | true => strB [114, UInt8.ofNat (48 + n)] | false => strB [114, 49, UInt8.ofNat (38 + n)]
def zIn (n : Nat) : List Nat → Bool
  | [] => false
  | x :: r => match Nat.beq n x with | true => true | false => zIn n r
def zJump (n : Nat) : Bool := zOr (Nat.beq (n % 8) 5) (Nat.beq (n % 8) 6)
def zArith (n : Nat) : Bool := zOr (Nat.beq (n % 8) 4) (Nat.beq (n % 8) 7)
def zStrs (l : List (List UInt8)) (n : Nat) : L := match l with
  | [] => strB []
  | x :: r => match n with | 0 => strB x | n + 1 => zStrs r n
def zName (n : Nat) : L := match zArith n with | true => zStrs [[97, 100, 100], [115, 117, 98], [109, 117, 108], [100, 105, 118], [111, 114], [97, 110, 100], [108, 115, 104], [114, 115, 104], [110, 101, 103], [109, 111, 100], [120, 111, 114], [109, 111, 118], [97, 114, 115, 104]] (n / 16) | false => zStrs [[], [106, 101, 113], [106, 103, 116], [106, 103, 101], [106, 115, 101, 116], [106, 110, 101], [106, 115, 103, 116], [106, 115, 103, 101], [], [], [106, 108, 116], [106, 108, 101], [106, 115, 108, 116], [106, 115, 108, 101]] (n / 16)
def zSize (n : Nat) : L := .b64 true (BitVec.ofNat 64 (match zIn n [113, 114, 115] with | true => 1 | false => match zIn n [105, 106, 107] with | true => 2 | false => match zIn n [97, 98, 99] with | true => 4 | false => match zIn n [121, 122, 123] with | true => 8 | false => 0))
abbrev sp_z_Jump : Sp := sp8 256 (fun n => .bool (zJump n))
set_option maxRecDepth 100000 in
theorem e_z_Jump : EntryOK Try.prog anyWorld 66 sp_z_Jump :=
  EntryOK.of_Y8 (pu := puZ) (im := imZ) (mk := mkZs) (fuel := 1000) (n := 12) (m := 8) C_z0 (by kernel_rfl) fs_Z (by decide) (by kernel_rfl)
abbrev tb_z_Jump : List (Nat × Sp) := (66, sp_z_Jump) :: tb_z0
theorem C_z_Jump : CSound Try.prog anyWorld (tab noData tb_z_Jump) := C_z0.cons e_z_Jump
abbrev sp_z_Arith : Sp := sp8 256 (fun n => .bool (zArith n))
set_option maxRecDepth 100000 in
theorem e_z_Arith : EntryOK Try.prog anyWorld 65 sp_z_Arith :=
  EntryOK.of_Y8 (pu := puZ) (im := imZ) (mk := mkZs) (fuel := 1000) (n := 12) (m := 8) C_z_Jump (by kernel_rfl) fs_Z (by decide) (by kernel_rfl)
abbrev tb_z_Arith : List (Nat × Sp) := (65, sp_z_Arith) :: tb_z_Jump
theorem C_z_Arith : CSound Try.prog anyWorld (tab noData tb_z_Arith) := C_z_Jump.cons e_z_Arith
abbrev sp_z_Code : Sp := sp8 256 (fun n => .b64 true (BitVec.ofNat 64 (n / 16 * 16)))
set_option maxRecDepth 100000 in
theorem e_z_Code : EntryOK Try.prog anyWorld 68 sp_z_Code :=
  EntryOK.of_Y8 (pu := puZ) (im := imZ) (mk := mkZs) (fuel := 1000) (n := 12) (m := 8) C_z_Arith (by kernel_rfl) fs_Z (by decide) (by kernel_rfl)
abbrev tb_z_Code : List (Nat × Sp) := (68, sp_z_Code) :: tb_z_Arith
theorem C_z_Code : CSound Try.prog anyWorld (tab noData tb_z_Code) := C_z_Arith.cons e_z_Code
abbrev sp_z_Reg : Sp := sp8 256 (fun n => .bool (Nat.beq (n / 8 % 2) 1))
set_option maxRecDepth 100000 in
theorem e_z_Reg : EntryOK Try.prog anyWorld 64 sp_z_Reg :=
  EntryOK.of_Y8 (pu := puZ) (im := imZ) (mk := mkZs) (fuel := 1000) (n := 12) (m := 8) C_z_Code (by kernel_rfl) fs_Z (by decide) (by kernel_rfl)
abbrev tb_z_Reg : List (Nat × Sp) := (64, sp_z_Reg) :: tb_z_Code
theorem C_z_Reg : CSound Try.prog anyWorld (tab noData tb_z_Reg) := C_z_Code.cons e_z_Reg
abbrev sp_z_Load : Sp := sp8 256 (fun n => .bool (zIn n [113, 105, 97, 121]))
set_option maxRecDepth 100000 in
theorem e_z_Load : EntryOK Try.prog anyWorld 61 sp_z_Load :=
  EntryOK.of_Y8 (pu := puZ) (im := imZ) (mk := mkZs) (fuel := 1000) (n := 12) (m := 8) C_z_Reg (by kernel_rfl) fs_Z (by decide) (by kernel_rfl)
abbrev tb_z_Load : List (Nat × Sp) := (61, sp_z_Load) :: tb_z_Reg
theorem C_z_Load : CSound Try.prog anyWorld (tab noData tb_z_Load) := C_z_Reg.cons e_z_Load
abbrev sp_z_Store : Sp := sp8 256 (fun n => .bool (zIn n [114, 106, 98, 122]))
set_option maxRecDepth 100000 in
theorem e_z_Store : EntryOK Try.prog anyWorld 62 sp_z_Store :=
  EntryOK.of_Y8 (pu := puZ) (im := imZ) (mk := mkZs) (fuel := 1000) (n := 12) (m := 8) C_z_Load (by kernel_rfl) fs_Z (by decide) (by kernel_rfl)
abbrev tb_z_Store : List (Nat × Sp) := (62, sp_z_Store) :: tb_z_Load
theorem C_z_Store : CSound Try.prog anyWorld (tab noData tb_z_Store) := C_z_Load.cons e_z_Store
abbrev sp_z_StoreReg : Sp := sp8 256 (fun n => .bool (zIn n [115, 107, 99, 123]))
set_option maxRecDepth 100000 in
theorem e_z_StoreReg : EntryOK Try.prog anyWorld 63 sp_z_StoreReg :=
  EntryOK.of_Y8 (pu := puZ) (im := imZ) (mk := mkZs) (fuel := 1000) (n := 12) (m := 8) C_z_Store (by kernel_rfl) fs_Z (by decide) (by kernel_rfl)
abbrev tb_z_StoreReg : List (Nat × Sp) := (63, sp_z_StoreReg) :: tb_z_Store
theorem C_z_StoreReg : CSound Try.prog anyWorld (tab noData tb_z_StoreReg) := C_z_Store.cons e_z_StoreReg
def sp_z_Size : Sp
  | [.one (.b8 false o)] => some (Cond.t, .one (zSize o.toNat))
  | _ => none
theorem all8z {p : BitVec 8 → Bool} (h : ∀ o : BitVec 8, p o = true) (o : BitVec 8) : p o = true := h o
set_option maxRecDepth 100000 in
set_option maxHeartbeats 4000000 in
theorem e_z_Size : EntryOK Try.prog anyWorld 60 sp_z_Size := by
  refine .of_F C_z_StoreReg (by kernel_rfl) Try.func60 (by kernel_rfl) (by kernel_rfl) (fun args c v h hc => ?_)
  unfold sp_z_Size at h
  split at h
  · rename_i o; cases h
    refine ⟨rfl, rfl, ?_⟩
    repeat' (first
      | (with_reducible apply Given.mk; intro h; (try exact absurd h (by decide)))
      | ((conv => whnf); first | with_reducible apply Both.mk | refine LoopP.times 14 ?_))
    all_goals first
      | (with_reducible apply Ob.mk; kernel_rfl)
      | (with_reducible apply Ob.mk; decide)
      | ((conv => whnf); refine ⟨?_⟩; refine congrArg (fun v => AV.one (.b64 true v)) ?_; revert o; decide +kernel)
  · cases h
abbrev tb_z_Size : List (Nat × Sp) := (60, sp_z_Size) :: tb_z_StoreReg
theorem C_z_Size : CSound Try.prog anyWorld (tab noData tb_z_Size) := C_z_StoreReg.cons e_z_Size
abbrev sp_z_number : Sp := spI 11 (zNum)
set_option maxRecDepth 100000 in
theorem e_z_number : EntryOK Try.prog anyWorld 59 sp_z_number :=
  EntryOK.of_YI (pu := puZ) (im := imZ) (mk := mkZs) (fuel := 1000) (n := 12) (m := 8) C_z_Size (by kernel_rfl) fs_Z (by decide) (by kernel_rfl)
abbrev tb_z_number : List (Nat × Sp) := (59, sp_z_number) :: tb_z_Size
theorem C_z_number : CSound Try.prog anyWorld (tab noData tb_z_number) := C_z_Size.cons e_z_number
abbrev sp_z_reg : Sp := sp8 11 (zReg)
set_option maxRecDepth 100000 in
theorem e_z_reg : EntryOK Try.prog anyWorld 79 sp_z_reg :=
  EntryOK.of_Y8 (pu := puZ) (im := imZ) (mk := mkZs) (fuel := 1000) (n := 12) (m := 8) C_z_number (by kernel_rfl) fs_Z (by decide) (by kernel_rfl)
abbrev tb_z_reg : List (Nat × Sp) := (79, sp_z_reg) :: tb_z_number
theorem C_z_reg : CSound Try.prog anyWorld (tab noData tb_z_reg) := C_z_number.cons e_z_reg
abbrev sp_z_name : Sp := sp8 256 (zName)
set_option maxRecDepth 100000 in
theorem e_z_name : EntryOK Try.prog anyWorld 67 sp_z_name :=
  EntryOK.of_Y8 (pu := puZ) (im := imZ) (mk := mkZs) (fuel := 1000) (n := 12) (m := 8) C_z_reg (by kernel_rfl) fs_Z (by decide) (by kernel_rfl)
abbrev tb_z_name : List (Nat × Sp) := (67, sp_z_name) :: tb_z_reg
theorem C_z_name : CSound Try.prog anyWorld (tab noData tb_z_name) := C_z_reg.cons e_z_name
noncomputable abbrev runW (f : Nat) (av : List AV) : Z AV := runY Try.prog noData tb_z_name puZ imZ mkZs FZ 1000 12 8 f av
end Go.Proofs.Ytdaioplfgbgggaa
