/-
  The world of the plain laws of chapter 02: none is asked. Conditions: none.
-/
import Derived.Test.YtikhekbdliblnaaKk
import Derived.Test.YtikhekbdliblnaaRows
namespace Go.Proofs.Ytikhekbdliblnaa
open Go.Ev Go.RowKit
abbrev GI (_ : Nat → Nat) : World → Prop := anyWorld
abbrev DI (_ : Nat → Nat) : VData := noData
abbrev tb_start : List (Nat × Sp) := []
theorem C_start (m : Nat → Nat) : CSound Try.prog (GI m) (tab (DI m) tb_start) := CSound.start
end Go.Proofs.Ytikhekbdliblnaa
