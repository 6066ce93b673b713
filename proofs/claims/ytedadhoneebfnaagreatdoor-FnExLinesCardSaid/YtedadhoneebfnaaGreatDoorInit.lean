/- Three closed facts on the head of the program, cheap for the kernel: the head's letters as a list. -/
import Derived.Test.YtedadhoneebfnaaGreatDoorRows
import Derived.ProofKit
set_option maxRecDepth 100000
namespace Go.Proofs.YtedadhoneebfnaaGreatDoor
def headL : List Char := [
  Char.ofNat 104, Char.ofNat 97, Char.ofNat 114, Char.ofNat 110, Char.ofNat 101, Char.ofNat 115, Char.ofNat 115, Char.ofNat 32, Char.ofNat 52, Char.ofNat 51, Char.ofNat 53, Char.ofNat 52,
  Char.ofNat 57, Char.ofNat 100, Char.ofNat 52, Char.ofNat 101, Char.ofNat 52, Char.ofNat 98, Char.ofNat 50, Char.ofNat 55, Char.ofNat 48, Char.ofNat 52, Char.ofNat 49, Char.ofNat 99,
  Char.ofNat 99, Char.ofNat 57, Char.ofNat 55, Char.ofNat 51, Char.ofNat 97, Char.ofNat 54, Char.ofNat 55, Char.ofNat 53, Char.ofNat 52, Char.ofNat 55, Char.ofNat 50, Char.ofNat 102,
  Char.ofNat 53, Char.ofNat 56, Char.ofNat 98, Char.ofNat 102, Char.ofNat 98, Char.ofNat 56, Char.ofNat 56, Char.ofNat 56, Char.ofNat 56, Char.ofNat 48, Char.ofNat 52, Char.ofNat 102,
  Char.ofNat 55, Char.ofNat 57, Char.ofNat 101, Char.ofNat 99, Char.ofNat 101, Char.ofNat 54, Char.ofNat 98, Char.ofNat 50, Char.ofNat 98, Char.ofNat 48, Char.ofNat 54, Char.ofNat 54,
  Char.ofNat 50, Char.ofNat 57, Char.ofNat 53, Char.ofNat 101, Char.ofNat 99, Char.ofNat 54, Char.ofNat 99, Char.ofNat 55, Char.ofNat 99, Char.ofNat 52, Char.ofNat 57, Char.ofNat 51,
  Char.ofNat 32, Char.ofNat 99, Char.ofNat 117, Char.ofNat 116, Char.ofNat 32, Char.ofNat 97, Char.ofNat 116, Char.ofNat 32, Char.ofNat 108, Char.ofNat 111, Char.ofNat 111, Char.ofNat 112,
  Char.ofNat 46, Char.ofNat 101, Char.ofNat 120, Char.ofNat 97, Char.ofNat 109, Char.ofNat 112, Char.ofNat 108, Char.ofNat 101, Char.ofNat 47, Char.ofNat 99, Char.ofNat 105, Char.ofNat 114,
  Char.ofNat 99, Char.ofNat 117, Char.ofNat 105, Char.ofNat 116, Char.ofNat 115, Char.ofNat 119, Char.ofNat 105, Char.ofNat 116, Char.ofNat 99, Char.ofNat 104, Char.ofNat 105, Char.ofNat 110,
  Char.ofNat 103, Char.ofNat 47, Char.ofNat 108, Char.ofNat 97, Char.ofNat 119, Char.ofNat 115, Char.ofNat 46, Char.ofNat 70, Char.ofNat 110, Char.ofNat 69, Char.ofNat 120, Char.ofNat 97,
  Char.ofNat 99, Char.ofNat 116, Char.ofNat 69, Char.ofNat 120, Char.ofNat 76, Char.ofNat 105, Char.ofNat 110, Char.ofNat 101, Char.ofNat 115, Char.ofNat 32, Char.ofNat 108, Char.ofNat 111,
  Char.ofNat 111, Char.ofNat 112, Char.ofNat 46, Char.ofNat 101, Char.ofNat 120, Char.ofNat 97, Char.ofNat 109, Char.ofNat 112, Char.ofNat 108, Char.ofNat 101, Char.ofNat 47, Char.ofNat 99,
  Char.ofNat 105, Char.ofNat 114, Char.ofNat 99, Char.ofNat 117, Char.ofNat 105, Char.ofNat 116, Char.ofNat 115, Char.ofNat 119, Char.ofNat 105, Char.ofNat 116, Char.ofNat 99, Char.ofNat 104,
  Char.ofNat 105, Char.ofNat 110, Char.ofNat 103, Char.ofNat 47, Char.ofNat 108, Char.ofNat 97, Char.ofNat 119, Char.ofNat 115, Char.ofNat 46, Char.ofNat 70, Char.ofNat 110, Char.ofNat 82,
  Char.ofNat 101, Char.ofNat 97, Char.ofNat 100, Char.ofNat 74, Char.ofNat 111, Char.ofNat 117, Char.ofNat 114, Char.ofNat 110, Char.ofNat 97, Char.ofNat 108, Char.ofNat 32, Char.ofNat 108,
  Char.ofNat 111, Char.ofNat 111, Char.ofNat 112, Char.ofNat 46, Char.ofNat 101, Char.ofNat 120, Char.ofNat 97, Char.ofNat 109, Char.ofNat 112, Char.ofNat 108, Char.ofNat 101, Char.ofNat 47,
  Char.ofNat 99, Char.ofNat 105, Char.ofNat 114, Char.ofNat 99, Char.ofNat 117, Char.ofNat 105, Char.ofNat 116, Char.ofNat 115, Char.ofNat 119, Char.ofNat 105, Char.ofNat 116, Char.ofNat 99,
  Char.ofNat 104, Char.ofNat 105, Char.ofNat 110, Char.ofNat 103, Char.ofNat 47, Char.ofNat 108, Char.ofNat 97, Char.ofNat 119, Char.ofNat 115, Char.ofNat 46, Char.ofNat 70, Char.ofNat 110,
  Char.ofNat 69, Char.ofNat 120, Char.ofNat 76, Char.ofNat 105, Char.ofNat 110, Char.ofNat 101, Char.ofNat 115, Char.ofNat 32, Char.ofNat 108, Char.ofNat 111, Char.ofNat 111, Char.ofNat 112,
  Char.ofNat 46, Char.ofNat 101, Char.ofNat 120, Char.ofNat 97, Char.ofNat 109, Char.ofNat 112, Char.ofNat 108, Char.ofNat 101, Char.ofNat 47, Char.ofNat 99, Char.ofNat 105, Char.ofNat 114,
  Char.ofNat 99, Char.ofNat 117, Char.ofNat 105, Char.ofNat 116, Char.ofNat 115, Char.ofNat 119, Char.ofNat 105, Char.ofNat 116, Char.ofNat 99, Char.ofNat 104, Char.ofNat 105, Char.ofNat 110,
  Char.ofNat 103, Char.ofNat 47, Char.ofNat 108, Char.ofNat 97, Char.ofNat 119, Char.ofNat 115, Char.ofNat 46, Char.ofNat 70, Char.ofNat 110, Char.ofNat 69, Char.ofNat 120, Char.ofNat 97,
  Char.ofNat 99, Char.ofNat 116, Char.ofNat 69, Char.ofNat 120, Char.ofNat 76, Char.ofNat 105, Char.ofNat 110, Char.ofNat 101, Char.ofNat 32, Char.ofNat 108, Char.ofNat 111, Char.ofNat 111,
  Char.ofNat 112, Char.ofNat 46, Char.ofNat 101, Char.ofNat 120, Char.ofNat 97, Char.ofNat 109, Char.ofNat 112, Char.ofNat 108, Char.ofNat 101, Char.ofNat 47, Char.ofNat 99, Char.ofNat 105,
  Char.ofNat 114, Char.ofNat 99, Char.ofNat 117, Char.ofNat 105, Char.ofNat 116, Char.ofNat 115, Char.ofNat 119, Char.ofNat 105, Char.ofNat 116, Char.ofNat 99, Char.ofNat 104, Char.ofNat 105,
  Char.ofNat 110, Char.ofNat 103, Char.ofNat 47, Char.ofNat 108, Char.ofNat 97, Char.ofNat 119, Char.ofNat 115, Char.ofNat 46, Char.ofNat 70, Char.ofNat 110, Char.ofNat 69, Char.ofNat 120,
  Char.ofNat 76, Char.ofNat 105, Char.ofNat 110, Char.ofNat 101]
theorem headL_eq : Tryz.prog.initOrder = String.ofList headL := by kernel_rfl
theorem headL_toList : Tryz.prog.initOrder.toList = headL := by rw [headL_eq, String.toList_ofList]
theorem make_any (P : Program) (h : P.initOrder.toList = headL) : P.make = some .cut := by
  unfold Program.make
  rw [h]
  kernel_rfl
theorem lifts_any (P : Program) (h : P.initOrder.toList = headL) : P.liftsFinal = false := by
  unfold Program.liftsFinal Program.headLifts
  rw [h]
  kernel_rfl
theorem mayEnter_any (P : Program) (h : P.initOrder.toList = headL) (h1 : P.laysLater = false) (h2 : P.bearsReflect = false) (h3 : P.doorFits [] = true) : P.mayEnter = true := by
  unfold Program.mayEnter
  rw [h, h1, h2]
  exact Eq.trans (by kernel_rfl : _ = P.doorFits []) h3
theorem make_eq : Tryz.prog.make = some .cut := make_any _ headL_toList
theorem lifts_eq : Tryz.prog.liftsFinal = false := lifts_any _ headL_toList
theorem mayEnter_eq : Tryz.prog.mayEnter = true := mayEnter_any _ headL_toList (by kernel_rfl) (by kernel_rfl) (by kernel_rfl)
end Go.Proofs.YtedadhoneebfnaaGreatDoor
