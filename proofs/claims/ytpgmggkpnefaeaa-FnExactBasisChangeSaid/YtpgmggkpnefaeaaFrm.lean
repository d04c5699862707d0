/- Closed facts of the translation that every statement's frame needs, out of the list of the head line's letters: the kernel need not take the great string apart. -/
import Derived.Test.YtpgmggkpnefaeaaRows
import Derived.WalkKit
import Derived.ProofKit
namespace Go.Proofs.Ytpgmggkpnefaeaa
open Go.ChangeShapes Go.WideShapes Go.ChangeAt Go.RowKit
set_option maxRecDepth 10000

def headNums : List Nat := [104, 97, 114, 110, 101, 115, 115, 32, 54, 54, 51, 53, 54, 55, 49, 55, 102, 55, 51, 99, 100, 53, 50, 100, 101, 48, 48, 52, 55, 48, 97, 100, 100, 102, 100, 99, 54, 54, 97, 98, 100, 101, 51, 49, 57, 57, 48, 54, 102, 56, 53, 53, 53, 49, 97, 54, 97, 102, 56, 100, 49, 50, 49, 52, 56, 102, 97, 53, 54, 56, 49, 55, 32, 99, 117, 116, 32, 97, 116, 32, 108, 111, 111, 112, 46, 101, 120, 97, 109, 112, 108, 101, 47, 103, 48, 49, 49, 53, 52, 47, 108, 97, 119, 115, 46, 70, 110, 69, 120, 97, 99, 116, 66, 97, 115, 105, 115, 67, 104, 97, 110, 103, 101, 32, 108, 111, 111, 112, 46, 101, 120, 97, 109, 112, 108, 101, 47, 103, 48, 49, 49, 53, 52, 47, 108, 97, 119, 115, 46, 70, 110, 69, 120, 97, 99, 116, 77, 105, 108, 110, 111, 114, 79, 102, 83, 113, 117, 97, 114, 101, 115, 32, 108, 111, 111, 112, 46, 101, 120, 97, 109, 112, 108, 101, 47, 103, 48, 49, 49, 53, 52, 47, 108, 97, 119, 115, 46, 70, 110, 69, 120, 97, 99, 116, 80, 97, 114, 116, 105, 116, 105, 111, 110, 115, 79, 102, 32, 108, 111, 111, 112, 46, 101, 120, 97, 109, 112, 108, 101, 47, 103, 48, 49, 49, 53, 52, 47, 108, 97, 119, 115, 46, 70, 110, 69, 120, 97, 99, 116, 68, 117, 97, 108, 66, 97, 115, 105, 115, 32, 108, 111, 111, 112, 46, 101, 120, 97, 109, 112, 108, 101, 47, 103, 48, 49, 49, 53, 52, 47, 108, 97, 119, 115, 46, 70, 110, 69, 120, 97, 99, 116, 77, 105, 108, 110, 111, 114, 66, 97, 115, 105, 115, 32, 108, 111, 111, 112, 46, 101, 120, 97, 109, 112, 108, 101, 47, 103, 48, 49, 49, 53, 52, 47, 108, 97, 119, 115, 46, 70, 110, 69, 120, 97, 99, 116, 77, 105, 108, 110, 111, 114, 79, 102, 67, 111, 111, 114, 100, 105, 110, 97, 116, 101, 115, 32, 108, 111, 111, 112, 46, 101, 120, 97, 109, 112, 108, 101, 47, 103, 48, 49, 49, 53, 52, 47, 108, 97, 119, 115, 46, 70, 110, 69, 120, 97, 99, 116, 83, 117, 109, 79, 102, 84, 101, 114, 109, 76, 105, 115, 116, 115, 32, 108, 111, 111, 112, 46, 101, 120, 97, 109, 112, 108, 101, 47, 103, 48, 49, 49, 53, 52, 47, 108, 97, 119, 115, 46, 70, 110, 69, 120, 97, 99, 116, 66, 97, 115, 105, 115, 79, 102, 80, 114, 111, 102, 105, 108, 101, 32, 108, 111, 111, 112, 46, 101, 120, 97, 109, 112, 108, 101, 47, 103, 48, 49, 49, 53, 52, 47, 108, 97, 119, 115, 46, 70, 110, 69, 120, 97, 99, 116, 71, 101, 110, 101, 114, 97, 116, 111, 114, 70, 111, 114, 109, 32, 108, 111, 111, 112, 46, 101, 120, 97, 109, 112, 108, 101, 47, 103, 48, 49, 49, 53, 52, 47, 108, 97, 119, 115, 46, 70, 110, 69, 120, 97, 99, 116, 65, 100, 100, 83, 113, 117, 97, 114, 101, 115, 32, 108, 111, 111, 112, 46, 101, 120, 97, 109, 112, 108, 101, 47, 103, 48, 49, 49, 53, 52, 47, 108, 97, 119, 115, 46, 70, 110, 69, 120, 97, 99, 116, 77, 105, 108, 110, 111, 114, 79, 102, 87, 111, 114, 100]

theorem head_of : Try.prog.initOrder = String.ofList (headNums.map Char.ofNat) := by kernel_rfl

theorem head_words : wordsSigns Try.prog.initOrder.toList = wordsSigns (headNums.map Char.ofNat) := by rw [head_of, String.toList_ofList]

theorem strip_cut (rest : List (List Char)) : stripLifts liftWords ("cut".toList :: rest) = ([], "cut".toList :: rest) := by
  simp [liftWords, stripLifts]

theorem headLifts_cut {P : Program} {rest : List (List Char)} (h : behindMainWord (wordsSigns P.initOrder.toList) = "cut".toList :: rest) : P.headLifts = [] := by
  unfold Program.headLifts
  rw [h, strip_cut]
  rfl

theorem make_cut {P : Program} {rest : List (List Char)} (h : behindMainWord (wordsSigns P.initOrder.toList) = "cut".toList :: rest) : P.make = some .cut := by
  unfold Program.make
  rw [h]
  rfl

theorem liftsFinal_cut {P : Program} {rest : List (List Char)} (h : behindMainWord (wordsSigns P.initOrder.toList) = "cut".toList :: rest) : P.liftsFinal = false := by
  unfold Program.liftsFinal
  rw [headLifts_cut h, h]
  rfl

theorem mayEnter_cut {P : Program} {rest : List (List Char)} (h : behindMainWord (wordsSigns P.initOrder.toList) = "cut".toList :: rest) (h2 : P.laysLater = false) (h3 : P.bearsReflect = false) (h4 : P.doorFits [] = true) : P.mayEnter = true := by
  unfold Program.mayEnter
  rw [h]
  simp only [strip_cut, h2, h3, h4]
  rfl

theorem cut0 : behindMainWord (wordsSigns (headNums.map Char.ofNat)) = "cut".toList :: (behindMainWord (wordsSigns (headNums.map Char.ofNat))).tail := by kernel_rfl

theorem cut1 : behindMainWord (wordsSigns Try.prog.initOrder.toList) = "cut".toList :: (behindMainWord (wordsSigns (headNums.map Char.ofNat))).tail := (congrArg behindMainWord head_words).trans cut0

theorem make_eq : Try.prog.make = some .cut := make_cut cut1

theorem liftsFinal_eq : Try.prog.liftsFinal = false := liftsFinal_cut cut1

theorem mayEnter_eq : Try.prog.mayEnter = true := mayEnter_cut cut1 (by kernel_rfl) (by kernel_rfl) (by kernel_rfl)

end Go.Proofs.Ytpgmggkpnefaeaa
