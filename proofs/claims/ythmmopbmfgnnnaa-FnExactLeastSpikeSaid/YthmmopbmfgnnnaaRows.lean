/-
  No cell of these rows narrows 'for every input' (looked for: loops, veiled, ifaces, maps, wideKeys, modest, calm, conditions, laid).
  DERIVED. THE GIVEN ROWS OF THIS SEAT. 12 by the template 'for every input the law returns true; each argument reads behind the call as it read before'; 0 by the template 'total and deterministic' (their statements: YthmmopbmfgnnnaaTotals.lean).
  GIVEN WITH THE SEED: the statements are not yours to turn. If you find one false, say at which input.
  Laid BY PROGRAM, IN A SANDBOX (cutbox-rows.mjs): the forced cells as the released guide's own fill.sh prints them over the translation ed2466508c9fe2b1… (all of the seat's roots in one cut). By AI agents, Wed Nov 11 2026. No macro, syntax, notation, axiom, sorry.
-/
import Derived.Test.YthmmopbmfgnnnaaChecked
import GoSem.Claim
import GoSem.ClaimJoined
import GoSem.ClaimMapViews
import Derived.JoinedTies
import Derived.KernelRfl
namespace Go.Proofs.Ythmmopbmfgnnnaa
/- THE CELL 'sum', in the pinned program and in every row, IS THE sha256 OF THE DUMP (.gsa) THAT YthmmopbmfgnnnaaProg.lean LOADS. Nothing in Lean hashes anything: it is a label: what it is worth is what the hold of that sum in a sandbox is worth. -/
noncomputable def Try.pinned : Pinned := { name := "ythmmopbmfgnnnaa", sum := "ed2466508c9fe2b1df71cdd038a6ee2fd3c42813a2f725f331b69f233f80de91", checked := Try.checked }
namespace Rows
def none {H : Type} : Left H := { results := [], args := [] }

/-- 'laws.FnExactConstants': WHATEVER THE INPUT: true; the input reads as it did. -/
def fnExactConstantsSpec : ChangeSpec := { name := "fnExactConstants", fn := fun _ => fun
  | [] => { results := [.lit (.bool true)], args := [] }
  | _ => none }
def fnExactConstantsRow : OpenClaim := { program := "ythmmopbmfgnnnaa", sum := "ed2466508c9fe2b1df71cdd038a6ee2fd3c42813a2f725f331b69f233f80de91", func := "loop.example/g01154/laws.FnExactConstants", spec := "fnExactConstants", apart := false }
def FnExactConstantsSaid : Prop := fnExactConstantsRow.holds Try.pinned (OpenSpec.ofChange fnExactConstantsSpec)

/-- ITS FALSE NEIGHBOUR: 'it returns false'. Refute it at one input. -/
def fnExactConstantsWrong : ChangeSpec := { name := "fnExactConstants", fn := fun _ => fun
  | [] => { results := [.lit (.bool false)], args := [] }
  | _ => none }
def FnExactConstantsWrongFalsely : Prop := fnExactConstantsRow.holds Try.pinned (OpenSpec.ofChange fnExactConstantsWrong)

/-- 'laws.FnExactBinomialParity': WHATEVER THE INPUT: true; the input reads as it did. -/
def fnExactBinomialParitySpec : ChangeSpec := { name := "fnExactBinomialParity", fn := fun _ => fun
  | [d1, d2] => { results := [.lit (.bool true)], args := [d1, d2] }
  | _ => none }
def fnExactBinomialParityRow : OpenClaim := { program := "ythmmopbmfgnnnaa", sum := "ed2466508c9fe2b1df71cdd038a6ee2fd3c42813a2f725f331b69f233f80de91", func := "loop.example/g01154/laws.FnExactBinomialParity", spec := "fnExactBinomialParity", apart := false }
def FnExactBinomialParitySaid : Prop := fnExactBinomialParityRow.holds Try.pinned (OpenSpec.ofChange fnExactBinomialParitySpec)

/-- ITS FALSE NEIGHBOUR: 'it returns false'. Refute it at one input. -/
def fnExactBinomialParityWrong : ChangeSpec := { name := "fnExactBinomialParity", fn := fun _ => fun
  | [d1, d2] => { results := [.lit (.bool false)], args := [d1, d2] }
  | _ => none }
def FnExactBinomialParityWrongFalsely : Prop := fnExactBinomialParityRow.holds Try.pinned (OpenSpec.ofChange fnExactBinomialParityWrong)

/-- 'laws.FnExactCountPartitions': WHATEVER THE INPUT: true; the input reads as it did. -/
def fnExactCountPartitionsSpec : ChangeSpec := { name := "fnExactCountPartitions", fn := fun _ => fun
  | [d] => { results := [.lit (.bool true)], args := [d] }
  | _ => none }
def fnExactCountPartitionsRow : OpenClaim := { program := "ythmmopbmfgnnnaa", sum := "ed2466508c9fe2b1df71cdd038a6ee2fd3c42813a2f725f331b69f233f80de91", func := "loop.example/g01154/laws.FnExactCountPartitions", spec := "fnExactCountPartitions", apart := false }
def FnExactCountPartitionsSaid : Prop := fnExactCountPartitionsRow.holds Try.pinned (OpenSpec.ofChange fnExactCountPartitionsSpec)

/-- ITS FALSE NEIGHBOUR: 'it returns false'. Refute it at one input. -/
def fnExactCountPartitionsWrong : ChangeSpec := { name := "fnExactCountPartitions", fn := fun _ => fun
  | [d] => { results := [.lit (.bool false)], args := [d] }
  | _ => none }
def FnExactCountPartitionsWrongFalsely : Prop := fnExactCountPartitionsRow.holds Try.pinned (OpenSpec.ofChange fnExactCountPartitionsWrong)

/-- 'laws.FnExactIsProfile': WHATEVER THE INPUT: true; the input reads as it did. -/
def fnExactIsProfileSpec : ChangeSpec := { name := "fnExactIsProfile", fn := fun _ => fun
  | [d] => { results := [.lit (.bool true)], args := [d] }
  | _ => none }
def fnExactIsProfileRow : OpenClaim := { program := "ythmmopbmfgnnnaa", sum := "ed2466508c9fe2b1df71cdd038a6ee2fd3c42813a2f725f331b69f233f80de91", func := "loop.example/g01154/laws.FnExactIsProfile", spec := "fnExactIsProfile", unfollowed := true, recurses := true, apart := false }
def FnExactIsProfileSaid : Prop := fnExactIsProfileRow.holds Try.pinned (OpenSpec.ofChange fnExactIsProfileSpec)

/-- ITS FALSE NEIGHBOUR: 'it returns false'. Refute it at one input. -/
def fnExactIsProfileWrong : ChangeSpec := { name := "fnExactIsProfile", fn := fun _ => fun
  | [d] => { results := [.lit (.bool false)], args := [d] }
  | _ => none }
def FnExactIsProfileWrongFalsely : Prop := fnExactIsProfileRow.holds Try.pinned (OpenSpec.ofChange fnExactIsProfileWrong)

/-- 'laws.FnExactProfileOfA': WHATEVER THE INPUT: true; the input reads as it did. -/
def fnExactProfileOfASpec : ChangeSpec := { name := "fnExactProfileOfA", fn := fun _ => fun
  | [d] => { results := [.lit (.bool true)], args := [d] }
  | _ => none }
def fnExactProfileOfARow : OpenClaim := { program := "ythmmopbmfgnnnaa", sum := "ed2466508c9fe2b1df71cdd038a6ee2fd3c42813a2f725f331b69f233f80de91", func := "loop.example/g01154/laws.FnExactProfileOfA", spec := "fnExactProfileOfA", apart := false }
def FnExactProfileOfASaid : Prop := fnExactProfileOfARow.holds Try.pinned (OpenSpec.ofChange fnExactProfileOfASpec)

/-- ITS FALSE NEIGHBOUR: 'it returns false'. Refute it at one input. -/
def fnExactProfileOfAWrong : ChangeSpec := { name := "fnExactProfileOfA", fn := fun _ => fun
  | [d] => { results := [.lit (.bool false)], args := [d] }
  | _ => none }
def FnExactProfileOfAWrongFalsely : Prop := fnExactProfileOfARow.holds Try.pinned (OpenSpec.ofChange fnExactProfileOfAWrong)

/-- 'laws.FnExactOnesIn': WHATEVER THE INPUT: true; the input reads as it did. -/
def fnExactOnesInSpec : ChangeSpec := { name := "fnExactOnesIn", fn := fun _ => fun
  | [d] => { results := [.lit (.bool true)], args := [d] }
  | _ => none }
def fnExactOnesInRow : OpenClaim := { program := "ythmmopbmfgnnnaa", sum := "ed2466508c9fe2b1df71cdd038a6ee2fd3c42813a2f725f331b69f233f80de91", func := "loop.example/g01154/laws.FnExactOnesIn", spec := "fnExactOnesIn", apart := false }
def FnExactOnesInSaid : Prop := fnExactOnesInRow.holds Try.pinned (OpenSpec.ofChange fnExactOnesInSpec)

/-- ITS FALSE NEIGHBOUR: 'it returns false'. Refute it at one input. -/
def fnExactOnesInWrong : ChangeSpec := { name := "fnExactOnesIn", fn := fun _ => fun
  | [d] => { results := [.lit (.bool false)], args := [d] }
  | _ => none }
def FnExactOnesInWrongFalsely : Prop := fnExactOnesInRow.holds Try.pinned (OpenSpec.ofChange fnExactOnesInWrong)

/-- 'laws.FnExactDigitsOf': WHATEVER THE INPUT: true; the input reads as it did. -/
def fnExactDigitsOfSpec : ChangeSpec := { name := "fnExactDigitsOf", fn := fun _ => fun
  | [d] => { results := [.lit (.bool true)], args := [d] }
  | _ => none }
def fnExactDigitsOfRow : OpenClaim := { program := "ythmmopbmfgnnnaa", sum := "ed2466508c9fe2b1df71cdd038a6ee2fd3c42813a2f725f331b69f233f80de91", func := "loop.example/g01154/laws.FnExactDigitsOf", spec := "fnExactDigitsOf", apart := false }
def FnExactDigitsOfSaid : Prop := fnExactDigitsOfRow.holds Try.pinned (OpenSpec.ofChange fnExactDigitsOfSpec)

/-- ITS FALSE NEIGHBOUR: 'it returns false'. Refute it at one input. -/
def fnExactDigitsOfWrong : ChangeSpec := { name := "fnExactDigitsOf", fn := fun _ => fun
  | [d] => { results := [.lit (.bool false)], args := [d] }
  | _ => none }
def FnExactDigitsOfWrongFalsely : Prop := fnExactDigitsOfRow.holds Try.pinned (OpenSpec.ofChange fnExactDigitsOfWrong)

/-- 'laws.FnExactLeastSpike': WHATEVER THE INPUT: true; the input reads as it did. -/
def fnExactLeastSpikeSpec : ChangeSpec := { name := "fnExactLeastSpike", fn := fun _ => fun
  | [d] => { results := [.lit (.bool true)], args := [d] }
  | _ => none }
def fnExactLeastSpikeRow : OpenClaim := { program := "ythmmopbmfgnnnaa", sum := "ed2466508c9fe2b1df71cdd038a6ee2fd3c42813a2f725f331b69f233f80de91", func := "loop.example/g01154/laws.FnExactLeastSpike", spec := "fnExactLeastSpike", apart := false }
def FnExactLeastSpikeSaid : Prop := fnExactLeastSpikeRow.holds Try.pinned (OpenSpec.ofChange fnExactLeastSpikeSpec)

/-- ITS FALSE NEIGHBOUR: 'it returns false'. Refute it at one input. -/
def fnExactLeastSpikeWrong : ChangeSpec := { name := "fnExactLeastSpike", fn := fun _ => fun
  | [d] => { results := [.lit (.bool false)], args := [d] }
  | _ => none }
def FnExactLeastSpikeWrongFalsely : Prop := fnExactLeastSpikeRow.holds Try.pinned (OpenSpec.ofChange fnExactLeastSpikeWrong)

/-- 'laws.FnExactMultinomialParity': WHATEVER THE INPUT: true; the input reads as it did. -/
def fnExactMultinomialParitySpec : ChangeSpec := { name := "fnExactMultinomialParity", fn := fun _ => fun
  | [d] => { results := [.lit (.bool true)], args := [d] }
  | _ => none }
def fnExactMultinomialParityRow : OpenClaim := { program := "ythmmopbmfgnnnaa", sum := "ed2466508c9fe2b1df71cdd038a6ee2fd3c42813a2f725f331b69f233f80de91", func := "loop.example/g01154/laws.FnExactMultinomialParity", spec := "fnExactMultinomialParity", unfollowed := true, recurses := true, apart := false }
def FnExactMultinomialParitySaid : Prop := fnExactMultinomialParityRow.holds Try.pinned (OpenSpec.ofChange fnExactMultinomialParitySpec)

/-- ITS FALSE NEIGHBOUR: 'it returns false'. Refute it at one input. -/
def fnExactMultinomialParityWrong : ChangeSpec := { name := "fnExactMultinomialParity", fn := fun _ => fun
  | [d] => { results := [.lit (.bool false)], args := [d] }
  | _ => none }
def FnExactMultinomialParityWrongFalsely : Prop := fnExactMultinomialParityRow.holds Try.pinned (OpenSpec.ofChange fnExactMultinomialParityWrong)

/-- 'laws.FnExactDimensionOfProfile': WHATEVER THE INPUT: true; the input reads as it did. -/
def fnExactDimensionOfProfileSpec : ChangeSpec := { name := "fnExactDimensionOfProfile", fn := fun _ => fun
  | [d] => { results := [.lit (.bool true)], args := [d] }
  | _ => none }
def fnExactDimensionOfProfileRow : OpenClaim := { program := "ythmmopbmfgnnnaa", sum := "ed2466508c9fe2b1df71cdd038a6ee2fd3c42813a2f725f331b69f233f80de91", func := "loop.example/g01154/laws.FnExactDimensionOfProfile", spec := "fnExactDimensionOfProfile", unfollowed := true, recurses := true, apart := false }
def FnExactDimensionOfProfileSaid : Prop := fnExactDimensionOfProfileRow.holds Try.pinned (OpenSpec.ofChange fnExactDimensionOfProfileSpec)

/-- ITS FALSE NEIGHBOUR: 'it returns false'. Refute it at one input. -/
def fnExactDimensionOfProfileWrong : ChangeSpec := { name := "fnExactDimensionOfProfile", fn := fun _ => fun
  | [d] => { results := [.lit (.bool false)], args := [d] }
  | _ => none }
def FnExactDimensionOfProfileWrongFalsely : Prop := fnExactDimensionOfProfileRow.holds Try.pinned (OpenSpec.ofChange fnExactDimensionOfProfileWrong)

/-- 'laws.FnExactIsMatrix': WHATEVER THE INPUT: true; the input reads as it did. -/
def fnExactIsMatrixSpec : ChangeSpec := { name := "fnExactIsMatrix", fn := fun _ => fun
  | [d] => { results := [.lit (.bool true)], args := [d] }
  | _ => none }
def fnExactIsMatrixRow : OpenClaim := { program := "ythmmopbmfgnnnaa", sum := "ed2466508c9fe2b1df71cdd038a6ee2fd3c42813a2f725f331b69f233f80de91", func := "loop.example/g01154/laws.FnExactIsMatrix", spec := "fnExactIsMatrix", unfollowed := true, recurses := true, apart := false }
def FnExactIsMatrixSaid : Prop := fnExactIsMatrixRow.holds Try.pinned (OpenSpec.ofChange fnExactIsMatrixSpec)

/-- ITS FALSE NEIGHBOUR: 'it returns false'. Refute it at one input. -/
def fnExactIsMatrixWrong : ChangeSpec := { name := "fnExactIsMatrix", fn := fun _ => fun
  | [d] => { results := [.lit (.bool false)], args := [d] }
  | _ => none }
def FnExactIsMatrixWrongFalsely : Prop := fnExactIsMatrixRow.holds Try.pinned (OpenSpec.ofChange fnExactIsMatrixWrong)

/-- 'laws.FnExactTopOfProfile': WHATEVER THE INPUT: true; the input reads as it did. -/
def fnExactTopOfProfileSpec : ChangeSpec := { name := "fnExactTopOfProfile", fn := fun _ => fun
  | [d] => { results := [.lit (.bool true)], args := [d] }
  | _ => none }
def fnExactTopOfProfileRow : OpenClaim := { program := "ythmmopbmfgnnnaa", sum := "ed2466508c9fe2b1df71cdd038a6ee2fd3c42813a2f725f331b69f233f80de91", func := "loop.example/g01154/laws.FnExactTopOfProfile", spec := "fnExactTopOfProfile", unfollowed := true, recurses := true, apart := false }
def FnExactTopOfProfileSaid : Prop := fnExactTopOfProfileRow.holds Try.pinned (OpenSpec.ofChange fnExactTopOfProfileSpec)

/-- ITS FALSE NEIGHBOUR: 'it returns false'. Refute it at one input. -/
def fnExactTopOfProfileWrong : ChangeSpec := { name := "fnExactTopOfProfile", fn := fun _ => fun
  | [d] => { results := [.lit (.bool false)], args := [d] }
  | _ => none }
def FnExactTopOfProfileWrongFalsely : Prop := fnExactTopOfProfileRow.holds Try.pinned (OpenSpec.ofChange fnExactTopOfProfileWrong)

/- THE SECOND FORM. 'bulk': how many values and letters a reading holds, each counted each time it is reached (what is shared counts as often as it is met; a slice's spare places count too). A statement '..UptoSaid' is the law's where the arguments, and the package variables that the reading takes, are together of bulk at most 1048576: NARROWER than '..Said'. Prove '..Said' where nothing that the law and all that it calls make is longer than what came in: it says more and counts as full. Else prove '..UptoSaid'. A law counts once. -/
mutual
def uptoBulk {H : Type} : DataW H → Nat
  | .lit (.string bytes) => bytes.length + 1
  | .lit _ => 1
  | .nil => 1
  | .ptr d => uptoBulk d + 1
  | .slice elems spare => uptoBulkAll elems + uptoBulkAll spare + 1
  | .agg parts => uptoBulkAll parts + 1
  | .iface _ d => uptoBulk d + 1
  | .map entries => uptoBulkEntries entries + 1
  | .held _ => 1
def uptoBulkAll {H : Type} : List (DataW H) → Nat
  | [] => 0
  | d :: r => uptoBulk d + uptoBulkAll r
def uptoBulkEntries {H : Type} : List (Lit × DataW H) → Nat
  | [] => 0
  | x :: r => uptoBulkEntry x + uptoBulkEntries r
def uptoBulkEntry {H : Type} : Lit × DataW H → Nat
  | (.string bytes, d) => bytes.length + uptoBulk d + 1
  | (_, d) => uptoBulk d + 1
 end
def uptoSmall : (H : Type) → List (DataW H) → Bool := fun _ ds => decide (uptoBulkAll ds ≤ 1048576)
def OpenSpec.upto (s : _root_.Go.ChangeSpec) : _root_.Go.OpenSpec := { _root_.Go.OpenSpec.ofChange s with cond := some uptoSmall }

/-- 'laws.FnExactConstants', WHERE WHAT IT READS IS OF BULK AT MOST 1048576: true; the input reads as it did. -/
def fnExactConstantsUptoRow : OpenClaim := { program := "ythmmopbmfgnnnaa", sum := "ed2466508c9fe2b1df71cdd038a6ee2fd3c42813a2f725f331b69f233f80de91", func := "loop.example/g01154/laws.FnExactConstants", spec := "fnExactConstants", apart := false, narrowed := true }
def FnExactConstantsUptoSaid : Prop := fnExactConstantsUptoRow.holds Try.pinned (OpenSpec.upto fnExactConstantsSpec)

/-- 'laws.FnExactBinomialParity', WHERE WHAT IT READS IS OF BULK AT MOST 1048576: true; the input reads as it did. -/
def fnExactBinomialParityUptoRow : OpenClaim := { program := "ythmmopbmfgnnnaa", sum := "ed2466508c9fe2b1df71cdd038a6ee2fd3c42813a2f725f331b69f233f80de91", func := "loop.example/g01154/laws.FnExactBinomialParity", spec := "fnExactBinomialParity", apart := false, narrowed := true }
def FnExactBinomialParityUptoSaid : Prop := fnExactBinomialParityUptoRow.holds Try.pinned (OpenSpec.upto fnExactBinomialParitySpec)

/-- 'laws.FnExactCountPartitions', WHERE WHAT IT READS IS OF BULK AT MOST 1048576: true; the input reads as it did. -/
def fnExactCountPartitionsUptoRow : OpenClaim := { program := "ythmmopbmfgnnnaa", sum := "ed2466508c9fe2b1df71cdd038a6ee2fd3c42813a2f725f331b69f233f80de91", func := "loop.example/g01154/laws.FnExactCountPartitions", spec := "fnExactCountPartitions", apart := false, narrowed := true }
def FnExactCountPartitionsUptoSaid : Prop := fnExactCountPartitionsUptoRow.holds Try.pinned (OpenSpec.upto fnExactCountPartitionsSpec)

/-- 'laws.FnExactIsProfile', WHERE WHAT IT READS IS OF BULK AT MOST 1048576: true; the input reads as it did. -/
def fnExactIsProfileUptoRow : OpenClaim := { program := "ythmmopbmfgnnnaa", sum := "ed2466508c9fe2b1df71cdd038a6ee2fd3c42813a2f725f331b69f233f80de91", func := "loop.example/g01154/laws.FnExactIsProfile", spec := "fnExactIsProfile", unfollowed := true, recurses := true, apart := false, narrowed := true }
def FnExactIsProfileUptoSaid : Prop := fnExactIsProfileUptoRow.holds Try.pinned (OpenSpec.upto fnExactIsProfileSpec)

/-- 'laws.FnExactProfileOfA', WHERE WHAT IT READS IS OF BULK AT MOST 1048576: true; the input reads as it did. -/
def fnExactProfileOfAUptoRow : OpenClaim := { program := "ythmmopbmfgnnnaa", sum := "ed2466508c9fe2b1df71cdd038a6ee2fd3c42813a2f725f331b69f233f80de91", func := "loop.example/g01154/laws.FnExactProfileOfA", spec := "fnExactProfileOfA", apart := false, narrowed := true }
def FnExactProfileOfAUptoSaid : Prop := fnExactProfileOfAUptoRow.holds Try.pinned (OpenSpec.upto fnExactProfileOfASpec)

/-- 'laws.FnExactOnesIn', WHERE WHAT IT READS IS OF BULK AT MOST 1048576: true; the input reads as it did. -/
def fnExactOnesInUptoRow : OpenClaim := { program := "ythmmopbmfgnnnaa", sum := "ed2466508c9fe2b1df71cdd038a6ee2fd3c42813a2f725f331b69f233f80de91", func := "loop.example/g01154/laws.FnExactOnesIn", spec := "fnExactOnesIn", apart := false, narrowed := true }
def FnExactOnesInUptoSaid : Prop := fnExactOnesInUptoRow.holds Try.pinned (OpenSpec.upto fnExactOnesInSpec)

/-- 'laws.FnExactDigitsOf', WHERE WHAT IT READS IS OF BULK AT MOST 1048576: true; the input reads as it did. -/
def fnExactDigitsOfUptoRow : OpenClaim := { program := "ythmmopbmfgnnnaa", sum := "ed2466508c9fe2b1df71cdd038a6ee2fd3c42813a2f725f331b69f233f80de91", func := "loop.example/g01154/laws.FnExactDigitsOf", spec := "fnExactDigitsOf", apart := false, narrowed := true }
def FnExactDigitsOfUptoSaid : Prop := fnExactDigitsOfUptoRow.holds Try.pinned (OpenSpec.upto fnExactDigitsOfSpec)

/-- 'laws.FnExactLeastSpike', WHERE WHAT IT READS IS OF BULK AT MOST 1048576: true; the input reads as it did. -/
def fnExactLeastSpikeUptoRow : OpenClaim := { program := "ythmmopbmfgnnnaa", sum := "ed2466508c9fe2b1df71cdd038a6ee2fd3c42813a2f725f331b69f233f80de91", func := "loop.example/g01154/laws.FnExactLeastSpike", spec := "fnExactLeastSpike", apart := false, narrowed := true }
def FnExactLeastSpikeUptoSaid : Prop := fnExactLeastSpikeUptoRow.holds Try.pinned (OpenSpec.upto fnExactLeastSpikeSpec)

/-- 'laws.FnExactMultinomialParity', WHERE WHAT IT READS IS OF BULK AT MOST 1048576: true; the input reads as it did. -/
def fnExactMultinomialParityUptoRow : OpenClaim := { program := "ythmmopbmfgnnnaa", sum := "ed2466508c9fe2b1df71cdd038a6ee2fd3c42813a2f725f331b69f233f80de91", func := "loop.example/g01154/laws.FnExactMultinomialParity", spec := "fnExactMultinomialParity", unfollowed := true, recurses := true, apart := false, narrowed := true }
def FnExactMultinomialParityUptoSaid : Prop := fnExactMultinomialParityUptoRow.holds Try.pinned (OpenSpec.upto fnExactMultinomialParitySpec)

/-- 'laws.FnExactDimensionOfProfile', WHERE WHAT IT READS IS OF BULK AT MOST 1048576: true; the input reads as it did. -/
def fnExactDimensionOfProfileUptoRow : OpenClaim := { program := "ythmmopbmfgnnnaa", sum := "ed2466508c9fe2b1df71cdd038a6ee2fd3c42813a2f725f331b69f233f80de91", func := "loop.example/g01154/laws.FnExactDimensionOfProfile", spec := "fnExactDimensionOfProfile", unfollowed := true, recurses := true, apart := false, narrowed := true }
def FnExactDimensionOfProfileUptoSaid : Prop := fnExactDimensionOfProfileUptoRow.holds Try.pinned (OpenSpec.upto fnExactDimensionOfProfileSpec)

/-- 'laws.FnExactIsMatrix', WHERE WHAT IT READS IS OF BULK AT MOST 1048576: true; the input reads as it did. -/
def fnExactIsMatrixUptoRow : OpenClaim := { program := "ythmmopbmfgnnnaa", sum := "ed2466508c9fe2b1df71cdd038a6ee2fd3c42813a2f725f331b69f233f80de91", func := "loop.example/g01154/laws.FnExactIsMatrix", spec := "fnExactIsMatrix", unfollowed := true, recurses := true, apart := false, narrowed := true }
def FnExactIsMatrixUptoSaid : Prop := fnExactIsMatrixUptoRow.holds Try.pinned (OpenSpec.upto fnExactIsMatrixSpec)

/-- 'laws.FnExactTopOfProfile', WHERE WHAT IT READS IS OF BULK AT MOST 1048576: true; the input reads as it did. -/
def fnExactTopOfProfileUptoRow : OpenClaim := { program := "ythmmopbmfgnnnaa", sum := "ed2466508c9fe2b1df71cdd038a6ee2fd3c42813a2f725f331b69f233f80de91", func := "loop.example/g01154/laws.FnExactTopOfProfile", spec := "fnExactTopOfProfile", unfollowed := true, recurses := true, apart := false, narrowed := true }
def FnExactTopOfProfileUptoSaid : Prop := fnExactTopOfProfileUptoRow.holds Try.pinned (OpenSpec.upto fnExactTopOfProfileSpec)

end Rows
end Go.Proofs.Ythmmopbmfgnnnaa
