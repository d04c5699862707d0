/-
  No cell of these rows narrows 'for every input' (looked for: loops, veiled, ifaces, maps, wideKeys, modest, calm, conditions, laid).
  DERIVED. THE GIVEN ROWS OF THIS SEAT. 15 by the template 'for every input the law returns true; each argument reads behind the call as it read before'; 0 by the template 'total and deterministic' (their statements: YtindhmgfadipnaaTotals.lean).
  GIVEN WITH THE SEED: the statements are not yours to turn. If you find one false, say at which input.
  Laid BY PROGRAM, IN A SANDBOX (cutbox-rows.mjs): the forced cells as the released guide's own fill.sh prints them over the translation e73b0d4cc3179ddb… (all of the seat's roots in one cut). By AI agents, Wed Nov 11 2026. No macro, syntax, notation, axiom, sorry.
-/
import Derived.Test.YtindhmgfadipnaaChecked
import GoSem.Claim
import GoSem.ClaimJoined
import GoSem.ClaimMapViews
import Derived.JoinedTies
import Derived.KernelRfl
namespace Go.Proofs.Ytindhmgfadipnaa
/- THE CELL 'sum', in the pinned program and in every row, IS THE sha256 OF THE DUMP (.gsa) THAT YtindhmgfadipnaaProg.lean LOADS. Nothing in Lean hashes anything: it is a label: what it is worth is what the hold of that sum in a sandbox is worth. -/
noncomputable def Try.pinned : Pinned := { name := "ytindhmgfadipnaa", sum := "e73b0d4cc3179ddb6ec5f430960e64f38f98f56bc7c04947b63628088a4c390a", checked := Try.checked }
namespace Rows
def none {H : Type} : Left H := { results := [], args := [] }

/-- 'laws.FnExactElementP': WHATEVER THE INPUT: true; the input reads as it did. -/
def fnExactElementPSpec : ChangeSpec := { name := "fnExactElementP", fn := fun _ => fun
  | [d1, d2] => { results := [.lit (.bool true)], args := [d1, d2] }
  | _ => none }
def fnExactElementPRow : OpenClaim := { program := "ytindhmgfadipnaa", sum := "e73b0d4cc3179ddb6ec5f430960e64f38f98f56bc7c04947b63628088a4c390a", func := "loop.example/g01154/laws.FnExactElementP", spec := "fnExactElementP", apart := false }
def FnExactElementPSaid : Prop := fnExactElementPRow.holds Try.pinned (OpenSpec.ofChange fnExactElementPSpec)

/-- ITS FALSE NEIGHBOUR: 'it returns false'. Refute it at one input. -/
def fnExactElementPWrong : ChangeSpec := { name := "fnExactElementP", fn := fun _ => fun
  | [d1, d2] => { results := [.lit (.bool false)], args := [d1, d2] }
  | _ => none }
def FnExactElementPWrongFalsely : Prop := fnExactElementPRow.holds Try.pinned (OpenSpec.ofChange fnExactElementPWrong)

/-- 'laws.FnExactElementQ': WHATEVER THE INPUT: true; the input reads as it did. -/
def fnExactElementQSpec : ChangeSpec := { name := "fnExactElementQ", fn := fun _ => fun
  | [d] => { results := [.lit (.bool true)], args := [d] }
  | _ => none }
def fnExactElementQRow : OpenClaim := { program := "ytindhmgfadipnaa", sum := "e73b0d4cc3179ddb6ec5f430960e64f38f98f56bc7c04947b63628088a4c390a", func := "loop.example/g01154/laws.FnExactElementQ", spec := "fnExactElementQ", apart := false }
def FnExactElementQSaid : Prop := fnExactElementQRow.holds Try.pinned (OpenSpec.ofChange fnExactElementQSpec)

/-- ITS FALSE NEIGHBOUR: 'it returns false'. Refute it at one input. -/
def fnExactElementQWrong : ChangeSpec := { name := "fnExactElementQ", fn := fun _ => fun
  | [d] => { results := [.lit (.bool false)], args := [d] }
  | _ => none }
def FnExactElementQWrongFalsely : Prop := fnExactElementQRow.holds Try.pinned (OpenSpec.ofChange fnExactElementQWrong)

/-- 'laws.FnExactIsTermList': WHATEVER THE INPUT: true; the input reads as it did. -/
def fnExactIsTermListSpec : ChangeSpec := { name := "fnExactIsTermList", fn := fun _ => fun
  | [d] => { results := [.lit (.bool true)], args := [d] }
  | _ => none }
def fnExactIsTermListRow : OpenClaim := { program := "ytindhmgfadipnaa", sum := "e73b0d4cc3179ddb6ec5f430960e64f38f98f56bc7c04947b63628088a4c390a", func := "loop.example/g01154/laws.FnExactIsTermList", spec := "fnExactIsTermList", unfollowed := true, recurses := true, apart := false }
def FnExactIsTermListSaid : Prop := fnExactIsTermListRow.holds Try.pinned (OpenSpec.ofChange fnExactIsTermListSpec)

/-- ITS FALSE NEIGHBOUR: 'it returns false'. Refute it at one input. -/
def fnExactIsTermListWrong : ChangeSpec := { name := "fnExactIsTermList", fn := fun _ => fun
  | [d] => { results := [.lit (.bool false)], args := [d] }
  | _ => none }
def FnExactIsTermListWrongFalsely : Prop := fnExactIsTermListRow.holds Try.pinned (OpenSpec.ofChange fnExactIsTermListWrong)

/-- 'laws.FnExactMultiplyMatrices': WHATEVER THE INPUT: true; the input reads as it did. -/
def fnExactMultiplyMatricesSpec : ChangeSpec := { name := "fnExactMultiplyMatrices", fn := fun _ => fun
  | [d1, d2] => { results := [.lit (.bool true)], args := [d1, d2] }
  | _ => none }
def fnExactMultiplyMatricesRow : OpenClaim := { program := "ytindhmgfadipnaa", sum := "e73b0d4cc3179ddb6ec5f430960e64f38f98f56bc7c04947b63628088a4c390a", func := "loop.example/g01154/laws.FnExactMultiplyMatrices", spec := "fnExactMultiplyMatrices", unfollowed := true, recurses := true, apart := false }
def FnExactMultiplyMatricesSaid : Prop := fnExactMultiplyMatricesRow.holds Try.pinned (OpenSpec.ofChange fnExactMultiplyMatricesSpec)

/-- ITS FALSE NEIGHBOUR: 'it returns false'. Refute it at one input. -/
def fnExactMultiplyMatricesWrong : ChangeSpec := { name := "fnExactMultiplyMatrices", fn := fun _ => fun
  | [d1, d2] => { results := [.lit (.bool false)], args := [d1, d2] }
  | _ => none }
def FnExactMultiplyMatricesWrongFalsely : Prop := fnExactMultiplyMatricesRow.holds Try.pinned (OpenSpec.ofChange fnExactMultiplyMatricesWrong)

/-- 'laws.FnExactMatrixOfLists': WHATEVER THE INPUT: true; the input reads as it did. -/
def fnExactMatrixOfListsSpec : ChangeSpec := { name := "fnExactMatrixOfLists", fn := fun _ => fun
  | [d1, d2] => { results := [.lit (.bool true)], args := [d1, d2] }
  | _ => none }
def fnExactMatrixOfListsRow : OpenClaim := { program := "ytindhmgfadipnaa", sum := "e73b0d4cc3179ddb6ec5f430960e64f38f98f56bc7c04947b63628088a4c390a", func := "loop.example/g01154/laws.FnExactMatrixOfLists", spec := "fnExactMatrixOfLists", unfollowed := true, recurses := true, apart := false }
def FnExactMatrixOfListsSaid : Prop := fnExactMatrixOfListsRow.holds Try.pinned (OpenSpec.ofChange fnExactMatrixOfListsSpec)

/-- ITS FALSE NEIGHBOUR: 'it returns false'. Refute it at one input. -/
def fnExactMatrixOfListsWrong : ChangeSpec := { name := "fnExactMatrixOfLists", fn := fun _ => fun
  | [d1, d2] => { results := [.lit (.bool false)], args := [d1, d2] }
  | _ => none }
def FnExactMatrixOfListsWrongFalsely : Prop := fnExactMatrixOfListsRow.holds Try.pinned (OpenSpec.ofChange fnExactMatrixOfListsWrong)

/-- 'laws.FnExactListsOfMatrix': WHATEVER THE INPUT: true; the input reads as it did. -/
def fnExactListsOfMatrixSpec : ChangeSpec := { name := "fnExactListsOfMatrix", fn := fun _ => fun
  | [d] => { results := [.lit (.bool true)], args := [d] }
  | _ => none }
def fnExactListsOfMatrixRow : OpenClaim := { program := "ytindhmgfadipnaa", sum := "e73b0d4cc3179ddb6ec5f430960e64f38f98f56bc7c04947b63628088a4c390a", func := "loop.example/g01154/laws.FnExactListsOfMatrix", spec := "fnExactListsOfMatrix", unfollowed := true, recurses := true, apart := false }
def FnExactListsOfMatrixSaid : Prop := fnExactListsOfMatrixRow.holds Try.pinned (OpenSpec.ofChange fnExactListsOfMatrixSpec)

/-- ITS FALSE NEIGHBOUR: 'it returns false'. Refute it at one input. -/
def fnExactListsOfMatrixWrong : ChangeSpec := { name := "fnExactListsOfMatrix", fn := fun _ => fun
  | [d] => { results := [.lit (.bool false)], args := [d] }
  | _ => none }
def FnExactListsOfMatrixWrongFalsely : Prop := fnExactListsOfMatrixRow.holds Try.pinned (OpenSpec.ofChange fnExactListsOfMatrixWrong)

/-- 'laws.FnExactTransposeOf': WHATEVER THE INPUT: true; the input reads as it did. -/
def fnExactTransposeOfSpec : ChangeSpec := { name := "fnExactTransposeOf", fn := fun _ => fun
  | [d] => { results := [.lit (.bool true)], args := [d] }
  | _ => none }
def fnExactTransposeOfRow : OpenClaim := { program := "ytindhmgfadipnaa", sum := "e73b0d4cc3179ddb6ec5f430960e64f38f98f56bc7c04947b63628088a4c390a", func := "loop.example/g01154/laws.FnExactTransposeOf", spec := "fnExactTransposeOf", unfollowed := true, recurses := true, apart := false }
def FnExactTransposeOfSaid : Prop := fnExactTransposeOfRow.holds Try.pinned (OpenSpec.ofChange fnExactTransposeOfSpec)

/-- ITS FALSE NEIGHBOUR: 'it returns false'. Refute it at one input. -/
def fnExactTransposeOfWrong : ChangeSpec := { name := "fnExactTransposeOf", fn := fun _ => fun
  | [d] => { results := [.lit (.bool false)], args := [d] }
  | _ => none }
def FnExactTransposeOfWrongFalsely : Prop := fnExactTransposeOfRow.holds Try.pinned (OpenSpec.ofChange fnExactTransposeOfWrong)

/-- 'laws.FnExactIsSquares': WHATEVER THE INPUT: true; the input reads as it did. -/
def fnExactIsSquaresSpec : ChangeSpec := { name := "fnExactIsSquares", fn := fun _ => fun
  | [d] => { results := [.lit (.bool true)], args := [d] }
  | _ => none }
def fnExactIsSquaresRow : OpenClaim := { program := "ytindhmgfadipnaa", sum := "e73b0d4cc3179ddb6ec5f430960e64f38f98f56bc7c04947b63628088a4c390a", func := "loop.example/g01154/laws.FnExactIsSquares", spec := "fnExactIsSquares", unfollowed := true, recurses := true, apart := false }
def FnExactIsSquaresSaid : Prop := fnExactIsSquaresRow.holds Try.pinned (OpenSpec.ofChange fnExactIsSquaresSpec)

/-- ITS FALSE NEIGHBOUR: 'it returns false'. Refute it at one input. -/
def fnExactIsSquaresWrong : ChangeSpec := { name := "fnExactIsSquares", fn := fun _ => fun
  | [d] => { results := [.lit (.bool false)], args := [d] }
  | _ => none }
def FnExactIsSquaresWrongFalsely : Prop := fnExactIsSquaresRow.holds Try.pinned (OpenSpec.ofChange fnExactIsSquaresWrong)

/-- 'laws.FnExactIsMilnor': WHATEVER THE INPUT: true; the input reads as it did. -/
def fnExactIsMilnorSpec : ChangeSpec := { name := "fnExactIsMilnor", fn := fun _ => fun
  | [d] => { results := [.lit (.bool true)], args := [d] }
  | _ => none }
def fnExactIsMilnorRow : OpenClaim := { program := "ytindhmgfadipnaa", sum := "e73b0d4cc3179ddb6ec5f430960e64f38f98f56bc7c04947b63628088a4c390a", func := "loop.example/g01154/laws.FnExactIsMilnor", spec := "fnExactIsMilnor", unfollowed := true, recurses := true, apart := false }
def FnExactIsMilnorSaid : Prop := fnExactIsMilnorRow.holds Try.pinned (OpenSpec.ofChange fnExactIsMilnorSpec)

/-- ITS FALSE NEIGHBOUR: 'it returns false'. Refute it at one input. -/
def fnExactIsMilnorWrong : ChangeSpec := { name := "fnExactIsMilnor", fn := fun _ => fun
  | [d] => { results := [.lit (.bool false)], args := [d] }
  | _ => none }
def FnExactIsMilnorWrongFalsely : Prop := fnExactIsMilnorRow.holds Try.pinned (OpenSpec.ofChange fnExactIsMilnorWrong)

/-- 'laws.FnExactIsPoly': WHATEVER THE INPUT: true; the input reads as it did. -/
def fnExactIsPolySpec : ChangeSpec := { name := "fnExactIsPoly", fn := fun _ => fun
  | [d] => { results := [.lit (.bool true)], args := [d] }
  | _ => none }
def fnExactIsPolyRow : OpenClaim := { program := "ytindhmgfadipnaa", sum := "e73b0d4cc3179ddb6ec5f430960e64f38f98f56bc7c04947b63628088a4c390a", func := "loop.example/g01154/laws.FnExactIsPoly", spec := "fnExactIsPoly", unfollowed := true, recurses := true, apart := false }
def FnExactIsPolySaid : Prop := fnExactIsPolyRow.holds Try.pinned (OpenSpec.ofChange fnExactIsPolySpec)

/-- ITS FALSE NEIGHBOUR: 'it returns false'. Refute it at one input. -/
def fnExactIsPolyWrong : ChangeSpec := { name := "fnExactIsPoly", fn := fun _ => fun
  | [d] => { results := [.lit (.bool false)], args := [d] }
  | _ => none }
def FnExactIsPolyWrongFalsely : Prop := fnExactIsPolyRow.holds Try.pinned (OpenSpec.ofChange fnExactIsPolyWrong)

/-- 'laws.FnExactIsDual': WHATEVER THE INPUT: true; the input reads as it did. -/
def fnExactIsDualSpec : ChangeSpec := { name := "fnExactIsDual", fn := fun _ => fun
  | [d] => { results := [.lit (.bool true)], args := [d] }
  | _ => none }
def fnExactIsDualRow : OpenClaim := { program := "ytindhmgfadipnaa", sum := "e73b0d4cc3179ddb6ec5f430960e64f38f98f56bc7c04947b63628088a4c390a", func := "loop.example/g01154/laws.FnExactIsDual", spec := "fnExactIsDual", unfollowed := true, recurses := true, apart := false }
def FnExactIsDualSaid : Prop := fnExactIsDualRow.holds Try.pinned (OpenSpec.ofChange fnExactIsDualSpec)

/-- ITS FALSE NEIGHBOUR: 'it returns false'. Refute it at one input. -/
def fnExactIsDualWrong : ChangeSpec := { name := "fnExactIsDual", fn := fun _ => fun
  | [d] => { results := [.lit (.bool false)], args := [d] }
  | _ => none }
def FnExactIsDualWrongFalsely : Prop := fnExactIsDualRow.holds Try.pinned (OpenSpec.ofChange fnExactIsDualWrong)

/-- 'laws.FnExactDegreeOfMilnor': WHATEVER THE INPUT: true; the input reads as it did. -/
def fnExactDegreeOfMilnorSpec : ChangeSpec := { name := "fnExactDegreeOfMilnor", fn := fun _ => fun
  | [d] => { results := [.lit (.bool true)], args := [d] }
  | _ => none }
def fnExactDegreeOfMilnorRow : OpenClaim := { program := "ytindhmgfadipnaa", sum := "e73b0d4cc3179ddb6ec5f430960e64f38f98f56bc7c04947b63628088a4c390a", func := "loop.example/g01154/laws.FnExactDegreeOfMilnor", spec := "fnExactDegreeOfMilnor", unfollowed := true, recurses := true, apart := false }
def FnExactDegreeOfMilnorSaid : Prop := fnExactDegreeOfMilnorRow.holds Try.pinned (OpenSpec.ofChange fnExactDegreeOfMilnorSpec)

/-- ITS FALSE NEIGHBOUR: 'it returns false'. Refute it at one input. -/
def fnExactDegreeOfMilnorWrong : ChangeSpec := { name := "fnExactDegreeOfMilnor", fn := fun _ => fun
  | [d] => { results := [.lit (.bool false)], args := [d] }
  | _ => none }
def FnExactDegreeOfMilnorWrongFalsely : Prop := fnExactDegreeOfMilnorRow.holds Try.pinned (OpenSpec.ofChange fnExactDegreeOfMilnorWrong)

/-- 'laws.FnExactExcessOfMilnor': WHATEVER THE INPUT: true; the input reads as it did. -/
def fnExactExcessOfMilnorSpec : ChangeSpec := { name := "fnExactExcessOfMilnor", fn := fun _ => fun
  | [d] => { results := [.lit (.bool true)], args := [d] }
  | _ => none }
def fnExactExcessOfMilnorRow : OpenClaim := { program := "ytindhmgfadipnaa", sum := "e73b0d4cc3179ddb6ec5f430960e64f38f98f56bc7c04947b63628088a4c390a", func := "loop.example/g01154/laws.FnExactExcessOfMilnor", spec := "fnExactExcessOfMilnor", unfollowed := true, recurses := true, apart := false }
def FnExactExcessOfMilnorSaid : Prop := fnExactExcessOfMilnorRow.holds Try.pinned (OpenSpec.ofChange fnExactExcessOfMilnorSpec)

/-- ITS FALSE NEIGHBOUR: 'it returns false'. Refute it at one input. -/
def fnExactExcessOfMilnorWrong : ChangeSpec := { name := "fnExactExcessOfMilnor", fn := fun _ => fun
  | [d] => { results := [.lit (.bool false)], args := [d] }
  | _ => none }
def FnExactExcessOfMilnorWrongFalsely : Prop := fnExactExcessOfMilnorRow.holds Try.pinned (OpenSpec.ofChange fnExactExcessOfMilnorWrong)

/-- 'laws.FnExactIsInPart': WHATEVER THE INPUT: true; the input reads as it did. -/
def fnExactIsInPartSpec : ChangeSpec := { name := "fnExactIsInPart", fn := fun _ => fun
  | [d1, d2] => { results := [.lit (.bool true)], args := [d1, d2] }
  | _ => none }
def fnExactIsInPartRow : OpenClaim := { program := "ytindhmgfadipnaa", sum := "e73b0d4cc3179ddb6ec5f430960e64f38f98f56bc7c04947b63628088a4c390a", func := "loop.example/g01154/laws.FnExactIsInPart", spec := "fnExactIsInPart", unfollowed := true, recurses := true, apart := false }
def FnExactIsInPartSaid : Prop := fnExactIsInPartRow.holds Try.pinned (OpenSpec.ofChange fnExactIsInPartSpec)

/-- ITS FALSE NEIGHBOUR: 'it returns false'. Refute it at one input. -/
def fnExactIsInPartWrong : ChangeSpec := { name := "fnExactIsInPart", fn := fun _ => fun
  | [d1, d2] => { results := [.lit (.bool false)], args := [d1, d2] }
  | _ => none }
def FnExactIsInPartWrongFalsely : Prop := fnExactIsInPartRow.holds Try.pinned (OpenSpec.ofChange fnExactIsInPartWrong)

/-- 'laws.FnSpikes': WHATEVER THE INPUT: true; the input reads as it did. -/
def fnSpikesSpec : ChangeSpec := { name := "fnSpikes", fn := fun _ => fun
  | [d] => { results := [.lit (.bool true)], args := [d] }
  | _ => none }
def fnSpikesRow : OpenClaim := { program := "ytindhmgfadipnaa", sum := "e73b0d4cc3179ddb6ec5f430960e64f38f98f56bc7c04947b63628088a4c390a", func := "loop.example/g01154/laws.FnSpikes", spec := "fnSpikes", recurses := true, apart := false }
def FnSpikesSaid : Prop := fnSpikesRow.holds Try.pinned (OpenSpec.ofChange fnSpikesSpec)

/-- ITS FALSE NEIGHBOUR: 'it returns false'. Refute it at one input. -/
def fnSpikesWrong : ChangeSpec := { name := "fnSpikes", fn := fun _ => fun
  | [d] => { results := [.lit (.bool false)], args := [d] }
  | _ => none }
def FnSpikesWrongFalsely : Prop := fnSpikesRow.holds Try.pinned (OpenSpec.ofChange fnSpikesWrong)

/- THE SECOND FORM. 'bulk': how many values and letters a reading holds, each counted each time it is reached (what is shared counts as often as it is met; a slice's spare places count too). A statement '..UptoSaid' is the law's where the arguments, and the package variables that the reading takes, are together of bulk at most 1048576: NARROWER than '..Said'. Prove '..Said' where nothing that the law and all that it calls make is longer than what came in: it says more and counts as full. Else prove '..UptoSaid'. A law counts once. -/
mutual
def uptoBulk {H : Type} : DataW H → Nat
  | .lit (.string bytes) => bytes.length + 1
  | .lit _ => 1
  | .nil => 1
  | .ptr d => uptoBulk d + 1
  | .slice elems spare => uptoBulkAll elems + uptoBulkAll spare + 1
  | .agg parts => uptoBulkAll parts + 1
  | .iface _ d => uptoBulk d + 1
  | .map entries => uptoBulkEntries entries + 1
  | .held _ => 1
def uptoBulkAll {H : Type} : List (DataW H) → Nat
  | [] => 0
  | d :: r => uptoBulk d + uptoBulkAll r
def uptoBulkEntries {H : Type} : List (Lit × DataW H) → Nat
  | [] => 0
  | x :: r => uptoBulkEntry x + uptoBulkEntries r
def uptoBulkEntry {H : Type} : Lit × DataW H → Nat
  | (.string bytes, d) => bytes.length + uptoBulk d + 1
  | (_, d) => uptoBulk d + 1
 end
def uptoSmall : (H : Type) → List (DataW H) → Bool := fun _ ds => decide (uptoBulkAll ds ≤ 1048576)
def OpenSpec.upto (s : _root_.Go.ChangeSpec) : _root_.Go.OpenSpec := { _root_.Go.OpenSpec.ofChange s with cond := some uptoSmall }

/-- 'laws.FnExactElementP', WHERE WHAT IT READS IS OF BULK AT MOST 1048576: true; the input reads as it did. -/
def fnExactElementPUptoRow : OpenClaim := { program := "ytindhmgfadipnaa", sum := "e73b0d4cc3179ddb6ec5f430960e64f38f98f56bc7c04947b63628088a4c390a", func := "loop.example/g01154/laws.FnExactElementP", spec := "fnExactElementP", apart := false, narrowed := true }
def FnExactElementPUptoSaid : Prop := fnExactElementPUptoRow.holds Try.pinned (OpenSpec.upto fnExactElementPSpec)

/-- 'laws.FnExactElementQ', WHERE WHAT IT READS IS OF BULK AT MOST 1048576: true; the input reads as it did. -/
def fnExactElementQUptoRow : OpenClaim := { program := "ytindhmgfadipnaa", sum := "e73b0d4cc3179ddb6ec5f430960e64f38f98f56bc7c04947b63628088a4c390a", func := "loop.example/g01154/laws.FnExactElementQ", spec := "fnExactElementQ", apart := false, narrowed := true }
def FnExactElementQUptoSaid : Prop := fnExactElementQUptoRow.holds Try.pinned (OpenSpec.upto fnExactElementQSpec)

/-- 'laws.FnExactIsTermList', WHERE WHAT IT READS IS OF BULK AT MOST 1048576: true; the input reads as it did. -/
def fnExactIsTermListUptoRow : OpenClaim := { program := "ytindhmgfadipnaa", sum := "e73b0d4cc3179ddb6ec5f430960e64f38f98f56bc7c04947b63628088a4c390a", func := "loop.example/g01154/laws.FnExactIsTermList", spec := "fnExactIsTermList", unfollowed := true, recurses := true, apart := false, narrowed := true }
def FnExactIsTermListUptoSaid : Prop := fnExactIsTermListUptoRow.holds Try.pinned (OpenSpec.upto fnExactIsTermListSpec)

/-- 'laws.FnExactMultiplyMatrices', WHERE WHAT IT READS IS OF BULK AT MOST 1048576: true; the input reads as it did. -/
def fnExactMultiplyMatricesUptoRow : OpenClaim := { program := "ytindhmgfadipnaa", sum := "e73b0d4cc3179ddb6ec5f430960e64f38f98f56bc7c04947b63628088a4c390a", func := "loop.example/g01154/laws.FnExactMultiplyMatrices", spec := "fnExactMultiplyMatrices", unfollowed := true, recurses := true, apart := false, narrowed := true }
def FnExactMultiplyMatricesUptoSaid : Prop := fnExactMultiplyMatricesUptoRow.holds Try.pinned (OpenSpec.upto fnExactMultiplyMatricesSpec)

/-- 'laws.FnExactMatrixOfLists', WHERE WHAT IT READS IS OF BULK AT MOST 1048576: true; the input reads as it did. -/
def fnExactMatrixOfListsUptoRow : OpenClaim := { program := "ytindhmgfadipnaa", sum := "e73b0d4cc3179ddb6ec5f430960e64f38f98f56bc7c04947b63628088a4c390a", func := "loop.example/g01154/laws.FnExactMatrixOfLists", spec := "fnExactMatrixOfLists", unfollowed := true, recurses := true, apart := false, narrowed := true }
def FnExactMatrixOfListsUptoSaid : Prop := fnExactMatrixOfListsUptoRow.holds Try.pinned (OpenSpec.upto fnExactMatrixOfListsSpec)

/-- 'laws.FnExactListsOfMatrix', WHERE WHAT IT READS IS OF BULK AT MOST 1048576: true; the input reads as it did. -/
def fnExactListsOfMatrixUptoRow : OpenClaim := { program := "ytindhmgfadipnaa", sum := "e73b0d4cc3179ddb6ec5f430960e64f38f98f56bc7c04947b63628088a4c390a", func := "loop.example/g01154/laws.FnExactListsOfMatrix", spec := "fnExactListsOfMatrix", unfollowed := true, recurses := true, apart := false, narrowed := true }
def FnExactListsOfMatrixUptoSaid : Prop := fnExactListsOfMatrixUptoRow.holds Try.pinned (OpenSpec.upto fnExactListsOfMatrixSpec)

/-- 'laws.FnExactTransposeOf', WHERE WHAT IT READS IS OF BULK AT MOST 1048576: true; the input reads as it did. -/
def fnExactTransposeOfUptoRow : OpenClaim := { program := "ytindhmgfadipnaa", sum := "e73b0d4cc3179ddb6ec5f430960e64f38f98f56bc7c04947b63628088a4c390a", func := "loop.example/g01154/laws.FnExactTransposeOf", spec := "fnExactTransposeOf", unfollowed := true, recurses := true, apart := false, narrowed := true }
def FnExactTransposeOfUptoSaid : Prop := fnExactTransposeOfUptoRow.holds Try.pinned (OpenSpec.upto fnExactTransposeOfSpec)

/-- 'laws.FnExactIsSquares', WHERE WHAT IT READS IS OF BULK AT MOST 1048576: true; the input reads as it did. -/
def fnExactIsSquaresUptoRow : OpenClaim := { program := "ytindhmgfadipnaa", sum := "e73b0d4cc3179ddb6ec5f430960e64f38f98f56bc7c04947b63628088a4c390a", func := "loop.example/g01154/laws.FnExactIsSquares", spec := "fnExactIsSquares", unfollowed := true, recurses := true, apart := false, narrowed := true }
def FnExactIsSquaresUptoSaid : Prop := fnExactIsSquaresUptoRow.holds Try.pinned (OpenSpec.upto fnExactIsSquaresSpec)

/-- 'laws.FnExactIsMilnor', WHERE WHAT IT READS IS OF BULK AT MOST 1048576: true; the input reads as it did. -/
def fnExactIsMilnorUptoRow : OpenClaim := { program := "ytindhmgfadipnaa", sum := "e73b0d4cc3179ddb6ec5f430960e64f38f98f56bc7c04947b63628088a4c390a", func := "loop.example/g01154/laws.FnExactIsMilnor", spec := "fnExactIsMilnor", unfollowed := true, recurses := true, apart := false, narrowed := true }
def FnExactIsMilnorUptoSaid : Prop := fnExactIsMilnorUptoRow.holds Try.pinned (OpenSpec.upto fnExactIsMilnorSpec)

/-- 'laws.FnExactIsPoly', WHERE WHAT IT READS IS OF BULK AT MOST 1048576: true; the input reads as it did. -/
def fnExactIsPolyUptoRow : OpenClaim := { program := "ytindhmgfadipnaa", sum := "e73b0d4cc3179ddb6ec5f430960e64f38f98f56bc7c04947b63628088a4c390a", func := "loop.example/g01154/laws.FnExactIsPoly", spec := "fnExactIsPoly", unfollowed := true, recurses := true, apart := false, narrowed := true }
def FnExactIsPolyUptoSaid : Prop := fnExactIsPolyUptoRow.holds Try.pinned (OpenSpec.upto fnExactIsPolySpec)

/-- 'laws.FnExactIsDual', WHERE WHAT IT READS IS OF BULK AT MOST 1048576: true; the input reads as it did. -/
def fnExactIsDualUptoRow : OpenClaim := { program := "ytindhmgfadipnaa", sum := "e73b0d4cc3179ddb6ec5f430960e64f38f98f56bc7c04947b63628088a4c390a", func := "loop.example/g01154/laws.FnExactIsDual", spec := "fnExactIsDual", unfollowed := true, recurses := true, apart := false, narrowed := true }
def FnExactIsDualUptoSaid : Prop := fnExactIsDualUptoRow.holds Try.pinned (OpenSpec.upto fnExactIsDualSpec)

/-- 'laws.FnExactDegreeOfMilnor', WHERE WHAT IT READS IS OF BULK AT MOST 1048576: true; the input reads as it did. -/
def fnExactDegreeOfMilnorUptoRow : OpenClaim := { program := "ytindhmgfadipnaa", sum := "e73b0d4cc3179ddb6ec5f430960e64f38f98f56bc7c04947b63628088a4c390a", func := "loop.example/g01154/laws.FnExactDegreeOfMilnor", spec := "fnExactDegreeOfMilnor", unfollowed := true, recurses := true, apart := false, narrowed := true }
def FnExactDegreeOfMilnorUptoSaid : Prop := fnExactDegreeOfMilnorUptoRow.holds Try.pinned (OpenSpec.upto fnExactDegreeOfMilnorSpec)

/-- 'laws.FnExactExcessOfMilnor', WHERE WHAT IT READS IS OF BULK AT MOST 1048576: true; the input reads as it did. -/
def fnExactExcessOfMilnorUptoRow : OpenClaim := { program := "ytindhmgfadipnaa", sum := "e73b0d4cc3179ddb6ec5f430960e64f38f98f56bc7c04947b63628088a4c390a", func := "loop.example/g01154/laws.FnExactExcessOfMilnor", spec := "fnExactExcessOfMilnor", unfollowed := true, recurses := true, apart := false, narrowed := true }
def FnExactExcessOfMilnorUptoSaid : Prop := fnExactExcessOfMilnorUptoRow.holds Try.pinned (OpenSpec.upto fnExactExcessOfMilnorSpec)

/-- 'laws.FnExactIsInPart', WHERE WHAT IT READS IS OF BULK AT MOST 1048576: true; the input reads as it did. -/
def fnExactIsInPartUptoRow : OpenClaim := { program := "ytindhmgfadipnaa", sum := "e73b0d4cc3179ddb6ec5f430960e64f38f98f56bc7c04947b63628088a4c390a", func := "loop.example/g01154/laws.FnExactIsInPart", spec := "fnExactIsInPart", unfollowed := true, recurses := true, apart := false, narrowed := true }
def FnExactIsInPartUptoSaid : Prop := fnExactIsInPartUptoRow.holds Try.pinned (OpenSpec.upto fnExactIsInPartSpec)

/-- 'laws.FnSpikes', WHERE WHAT IT READS IS OF BULK AT MOST 1048576: true; the input reads as it did. -/
def fnSpikesUptoRow : OpenClaim := { program := "ytindhmgfadipnaa", sum := "e73b0d4cc3179ddb6ec5f430960e64f38f98f56bc7c04947b63628088a4c390a", func := "loop.example/g01154/laws.FnSpikes", spec := "fnSpikes", recurses := true, apart := false, narrowed := true }
def FnSpikesUptoSaid : Prop := fnSpikesUptoRow.holds Try.pinned (OpenSpec.upto fnSpikesSpec)

end Rows
end Go.Proofs.Ytindhmgfadipnaa
