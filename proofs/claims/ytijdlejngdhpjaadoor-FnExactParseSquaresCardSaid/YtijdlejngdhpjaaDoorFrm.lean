/- Closed facts of the translation that every statement's frame needs, out of the list of the head line's letters: the kernel need not take the great string apart. -/
import Derived.Test.YtijdlejngdhpjaaDoorRows
import Derived.WalkKit
import Derived.ProofKit
namespace Go.Proofs.YtijdlejngdhpjaaDoor
open Go.ChangeShapes Go.WideShapes Go.ChangeAt Go.RowKit
set_option maxRecDepth 10000

def headNums : List Nat := [104, 97, 114, 110, 101, 115, 115, 32, 56, 57, 54, 53, 98, 56, 97, 99, 56, 51, 98, 53, 101, 99, 53, 102, 48, 56, 48, 55, 50, 102, 100, 50, 99, 101, 100, 102, 97, 51, 55, 54, 54, 54, 54, 55, 56, 55, 100, 55, 53, 55, 50, 99, 49, 100, 102, 50, 49, 101, 50, 53, 98, 102, 50, 101, 57, 100, 99, 57, 99, 99, 54, 101, 32, 99, 117, 116, 32, 97, 116, 32, 108, 111, 111, 112, 46, 101, 120, 97, 109, 112, 108, 101, 47, 103, 48, 49, 49, 53, 52, 47, 108, 97, 119, 115, 46, 70, 110, 69, 120, 97, 99, 116, 80, 97, 114, 115, 101, 83, 113, 117, 97, 114, 101, 115, 32, 108, 111, 111, 112, 46, 101, 120, 97, 109, 112, 108, 101, 47, 103, 48, 49, 49, 53, 52, 47, 108, 97, 119, 115, 46, 70, 110, 69, 120, 97, 99, 116, 83, 113, 117, 97, 114, 101, 115, 84, 101, 120, 116]

theorem head_of : Tryd.prog.initOrder = String.ofList (headNums.map Char.ofNat) := by kernel_rfl

theorem head_words : wordsSigns Tryd.prog.initOrder.toList = wordsSigns (headNums.map Char.ofNat) := by rw [head_of, String.toList_ofList]

theorem strip_cut (rest : List (List Char)) : stripLifts liftWords ("cut".toList :: rest) = ([], "cut".toList :: rest) := by
  simp [liftWords, stripLifts]

theorem headLifts_cut {P : Program} {rest : List (List Char)} (h : behindMainWord (wordsSigns P.initOrder.toList) = "cut".toList :: rest) : P.headLifts = [] := by
  unfold Program.headLifts
  rw [h, strip_cut]
  rfl

theorem make_cut {P : Program} {rest : List (List Char)} (h : behindMainWord (wordsSigns P.initOrder.toList) = "cut".toList :: rest) : P.make = some .cut := by
  unfold Program.make
  rw [h]
  rfl

theorem liftsFinal_cut {P : Program} {rest : List (List Char)} (h : behindMainWord (wordsSigns P.initOrder.toList) = "cut".toList :: rest) : P.liftsFinal = false := by
  unfold Program.liftsFinal
  rw [headLifts_cut h, h]
  rfl

theorem mayEnter_cut {P : Program} {rest : List (List Char)} (h : behindMainWord (wordsSigns P.initOrder.toList) = "cut".toList :: rest) (h2 : P.laysLater = false) (h3 : P.bearsReflect = false) (h4 : P.doorFits [] = true) : P.mayEnter = true := by
  unfold Program.mayEnter
  rw [h]
  simp only [strip_cut, h2, h3, h4]
  rfl

theorem cut0 : behindMainWord (wordsSigns (headNums.map Char.ofNat)) = "cut".toList :: (behindMainWord (wordsSigns (headNums.map Char.ofNat))).tail := by kernel_rfl

theorem cut1 : behindMainWord (wordsSigns Tryd.prog.initOrder.toList) = "cut".toList :: (behindMainWord (wordsSigns (headNums.map Char.ofNat))).tail := (congrArg behindMainWord head_words).trans cut0

theorem make_eq : Tryd.prog.make = some .cut := make_cut cut1

theorem liftsFinal_eq : Tryd.prog.liftsFinal = false := liftsFinal_cut cut1

theorem mayEnter_eq : Tryd.prog.mayEnter = true := mayEnter_cut cut1 (by kernel_rfl) (by kernel_rfl) (by kernel_rfl)

end Go.Proofs.YtijdlejngdhpjaaDoor
