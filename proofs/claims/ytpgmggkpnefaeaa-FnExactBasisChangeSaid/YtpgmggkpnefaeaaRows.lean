/-
  No cell of these rows narrows 'for every input' (looked for: loops, veiled, ifaces, maps, wideKeys, modest, calm, conditions, laid).
  DERIVED. THE GIVEN ROWS OF THIS SEAT. 11 by the template 'for every input the law returns true; each argument reads behind the call as it read before'; 0 by the template 'total and deterministic' (their statements: YtpgmggkpnefaeaaTotals.lean).
  GIVEN WITH THE SEED: the statements are not yours to turn. If you find one false, say at which input.
  Laid BY PROGRAM, IN A SANDBOX (cutbox-rows.mjs): the forced cells as the released guide's own fill.sh prints them over the translation 4f976aa509585d67… (all of the seat's roots in one cut). By AI agents, Wed Nov 11 2026. No macro, syntax, notation, axiom, sorry.
-/
import Derived.Test.YtpgmggkpnefaeaaChecked
import GoSem.Claim
import GoSem.ClaimJoined
import GoSem.ClaimMapViews
import Derived.JoinedTies
import Derived.KernelRfl
namespace Go.Proofs.Ytpgmggkpnefaeaa
/- THE CELL 'sum', in the pinned program and in every row, IS THE sha256 OF THE DUMP (.gsa) THAT YtpgmggkpnefaeaaProg.lean LOADS. Nothing in Lean hashes anything: it is a label: what it is worth is what the hold of that sum in a sandbox is worth. -/
noncomputable def Try.pinned : Pinned := { name := "ytpgmggkpnefaeaa", sum := "4f976aa509585d672002e714a1316c0b5e4d25dd46b34a1cd716a106c0ab6ac2", checked := Try.checked }
namespace Rows
def none {H : Type} : Left H := { results := [], args := [] }

/-- 'laws.FnExactBasisChange': WHATEVER THE INPUT: true; the input reads as it did. -/
def fnExactBasisChangeSpec : ChangeSpec := { name := "fnExactBasisChange", fn := fun _ => fun
  | [d] => { results := [.lit (.bool true)], args := [d] }
  | _ => none }
def fnExactBasisChangeRow : OpenClaim := { program := "ytpgmggkpnefaeaa", sum := "4f976aa509585d672002e714a1316c0b5e4d25dd46b34a1cd716a106c0ab6ac2", func := "loop.example/g01154/laws.FnExactBasisChange", spec := "fnExactBasisChange", unfollowed := true, recurses := true, apart := false }
def FnExactBasisChangeSaid : Prop := fnExactBasisChangeRow.holds Try.pinned (OpenSpec.ofChange fnExactBasisChangeSpec)

/-- ITS FALSE NEIGHBOUR: 'it returns false'. Refute it at one input. -/
def fnExactBasisChangeWrong : ChangeSpec := { name := "fnExactBasisChange", fn := fun _ => fun
  | [d] => { results := [.lit (.bool false)], args := [d] }
  | _ => none }
def FnExactBasisChangeWrongFalsely : Prop := fnExactBasisChangeRow.holds Try.pinned (OpenSpec.ofChange fnExactBasisChangeWrong)

/-- 'laws.FnExactMilnorOfSquares': WHATEVER THE INPUT: true; the input reads as it did. -/
def fnExactMilnorOfSquaresSpec : ChangeSpec := { name := "fnExactMilnorOfSquares", fn := fun _ => fun
  | [d] => { results := [.lit (.bool true)], args := [d] }
  | _ => none }
def fnExactMilnorOfSquaresRow : OpenClaim := { program := "ytpgmggkpnefaeaa", sum := "4f976aa509585d672002e714a1316c0b5e4d25dd46b34a1cd716a106c0ab6ac2", func := "loop.example/g01154/laws.FnExactMilnorOfSquares", spec := "fnExactMilnorOfSquares", unfollowed := true, recurses := true, apart := false }
def FnExactMilnorOfSquaresSaid : Prop := fnExactMilnorOfSquaresRow.holds Try.pinned (OpenSpec.ofChange fnExactMilnorOfSquaresSpec)

/-- ITS FALSE NEIGHBOUR: 'it returns false'. Refute it at one input. -/
def fnExactMilnorOfSquaresWrong : ChangeSpec := { name := "fnExactMilnorOfSquares", fn := fun _ => fun
  | [d] => { results := [.lit (.bool false)], args := [d] }
  | _ => none }
def FnExactMilnorOfSquaresWrongFalsely : Prop := fnExactMilnorOfSquaresRow.holds Try.pinned (OpenSpec.ofChange fnExactMilnorOfSquaresWrong)

/-- 'laws.FnExactPartitionsOf': WHATEVER THE INPUT: true; the input reads as it did. -/
def fnExactPartitionsOfSpec : ChangeSpec := { name := "fnExactPartitionsOf", fn := fun _ => fun
  | [d] => { results := [.lit (.bool true)], args := [d] }
  | _ => none }
def fnExactPartitionsOfRow : OpenClaim := { program := "ytpgmggkpnefaeaa", sum := "4f976aa509585d672002e714a1316c0b5e4d25dd46b34a1cd716a106c0ab6ac2", func := "loop.example/g01154/laws.FnExactPartitionsOf", spec := "fnExactPartitionsOf", unfollowed := true, recurses := true, apart := false }
def FnExactPartitionsOfSaid : Prop := fnExactPartitionsOfRow.holds Try.pinned (OpenSpec.ofChange fnExactPartitionsOfSpec)

/-- ITS FALSE NEIGHBOUR: 'it returns false'. Refute it at one input. -/
def fnExactPartitionsOfWrong : ChangeSpec := { name := "fnExactPartitionsOf", fn := fun _ => fun
  | [d] => { results := [.lit (.bool false)], args := [d] }
  | _ => none }
def FnExactPartitionsOfWrongFalsely : Prop := fnExactPartitionsOfRow.holds Try.pinned (OpenSpec.ofChange fnExactPartitionsOfWrong)

/-- 'laws.FnExactDualBasis': WHATEVER THE INPUT: true; the input reads as it did. -/
def fnExactDualBasisSpec : ChangeSpec := { name := "fnExactDualBasis", fn := fun _ => fun
  | [d] => { results := [.lit (.bool true)], args := [d] }
  | _ => none }
def fnExactDualBasisRow : OpenClaim := { program := "ytpgmggkpnefaeaa", sum := "4f976aa509585d672002e714a1316c0b5e4d25dd46b34a1cd716a106c0ab6ac2", func := "loop.example/g01154/laws.FnExactDualBasis", spec := "fnExactDualBasis", unfollowed := true, recurses := true, apart := false }
def FnExactDualBasisSaid : Prop := fnExactDualBasisRow.holds Try.pinned (OpenSpec.ofChange fnExactDualBasisSpec)

/-- ITS FALSE NEIGHBOUR: 'it returns false'. Refute it at one input. -/
def fnExactDualBasisWrong : ChangeSpec := { name := "fnExactDualBasis", fn := fun _ => fun
  | [d] => { results := [.lit (.bool false)], args := [d] }
  | _ => none }
def FnExactDualBasisWrongFalsely : Prop := fnExactDualBasisRow.holds Try.pinned (OpenSpec.ofChange fnExactDualBasisWrong)

/-- 'laws.FnExactMilnorBasis': WHATEVER THE INPUT: true; the input reads as it did. -/
def fnExactMilnorBasisSpec : ChangeSpec := { name := "fnExactMilnorBasis", fn := fun _ => fun
  | [d] => { results := [.lit (.bool true)], args := [d] }
  | _ => none }
def fnExactMilnorBasisRow : OpenClaim := { program := "ytpgmggkpnefaeaa", sum := "4f976aa509585d672002e714a1316c0b5e4d25dd46b34a1cd716a106c0ab6ac2", func := "loop.example/g01154/laws.FnExactMilnorBasis", spec := "fnExactMilnorBasis", unfollowed := true, recurses := true, apart := false }
def FnExactMilnorBasisSaid : Prop := fnExactMilnorBasisRow.holds Try.pinned (OpenSpec.ofChange fnExactMilnorBasisSpec)

/-- ITS FALSE NEIGHBOUR: 'it returns false'. Refute it at one input. -/
def fnExactMilnorBasisWrong : ChangeSpec := { name := "fnExactMilnorBasis", fn := fun _ => fun
  | [d] => { results := [.lit (.bool false)], args := [d] }
  | _ => none }
def FnExactMilnorBasisWrongFalsely : Prop := fnExactMilnorBasisRow.holds Try.pinned (OpenSpec.ofChange fnExactMilnorBasisWrong)

/-- 'laws.FnExactMilnorOfCoordinates': WHATEVER THE INPUT: true; the input reads as it did. -/
def fnExactMilnorOfCoordinatesSpec : ChangeSpec := { name := "fnExactMilnorOfCoordinates", fn := fun _ => fun
  | [d1, d2] => { results := [.lit (.bool true)], args := [d1, d2] }
  | _ => none }
def fnExactMilnorOfCoordinatesRow : OpenClaim := { program := "ytpgmggkpnefaeaa", sum := "4f976aa509585d672002e714a1316c0b5e4d25dd46b34a1cd716a106c0ab6ac2", func := "loop.example/g01154/laws.FnExactMilnorOfCoordinates", spec := "fnExactMilnorOfCoordinates", unfollowed := true, recurses := true, apart := false }
def FnExactMilnorOfCoordinatesSaid : Prop := fnExactMilnorOfCoordinatesRow.holds Try.pinned (OpenSpec.ofChange fnExactMilnorOfCoordinatesSpec)

/-- ITS FALSE NEIGHBOUR: 'it returns false'. Refute it at one input. -/
def fnExactMilnorOfCoordinatesWrong : ChangeSpec := { name := "fnExactMilnorOfCoordinates", fn := fun _ => fun
  | [d1, d2] => { results := [.lit (.bool false)], args := [d1, d2] }
  | _ => none }
def FnExactMilnorOfCoordinatesWrongFalsely : Prop := fnExactMilnorOfCoordinatesRow.holds Try.pinned (OpenSpec.ofChange fnExactMilnorOfCoordinatesWrong)

/-- 'laws.FnExactSumOfTermLists': WHATEVER THE INPUT: true; the input reads as it did. -/
def fnExactSumOfTermListsSpec : ChangeSpec := { name := "fnExactSumOfTermLists", fn := fun _ => fun
  | [d1, d2] => { results := [.lit (.bool true)], args := [d1, d2] }
  | _ => none }
def fnExactSumOfTermListsRow : OpenClaim := { program := "ytpgmggkpnefaeaa", sum := "4f976aa509585d672002e714a1316c0b5e4d25dd46b34a1cd716a106c0ab6ac2", func := "loop.example/g01154/laws.FnExactSumOfTermLists", spec := "fnExactSumOfTermLists", unfollowed := true, recurses := true, apart := false }
def FnExactSumOfTermListsSaid : Prop := fnExactSumOfTermListsRow.holds Try.pinned (OpenSpec.ofChange fnExactSumOfTermListsSpec)

/-- ITS FALSE NEIGHBOUR: 'it returns false'. Refute it at one input. -/
def fnExactSumOfTermListsWrong : ChangeSpec := { name := "fnExactSumOfTermLists", fn := fun _ => fun
  | [d1, d2] => { results := [.lit (.bool false)], args := [d1, d2] }
  | _ => none }
def FnExactSumOfTermListsWrongFalsely : Prop := fnExactSumOfTermListsRow.holds Try.pinned (OpenSpec.ofChange fnExactSumOfTermListsWrong)

/-- 'laws.FnExactBasisOfProfile': WHATEVER THE INPUT: true; the input reads as it did. -/
def fnExactBasisOfProfileSpec : ChangeSpec := { name := "fnExactBasisOfProfile", fn := fun _ => fun
  | [d1, d2] => { results := [.lit (.bool true)], args := [d1, d2] }
  | _ => none }
def fnExactBasisOfProfileRow : OpenClaim := { program := "ytpgmggkpnefaeaa", sum := "4f976aa509585d672002e714a1316c0b5e4d25dd46b34a1cd716a106c0ab6ac2", func := "loop.example/g01154/laws.FnExactBasisOfProfile", spec := "fnExactBasisOfProfile", unfollowed := true, recurses := true, apart := false }
def FnExactBasisOfProfileSaid : Prop := fnExactBasisOfProfileRow.holds Try.pinned (OpenSpec.ofChange fnExactBasisOfProfileSpec)

/-- ITS FALSE NEIGHBOUR: 'it returns false'. Refute it at one input. -/
def fnExactBasisOfProfileWrong : ChangeSpec := { name := "fnExactBasisOfProfile", fn := fun _ => fun
  | [d1, d2] => { results := [.lit (.bool false)], args := [d1, d2] }
  | _ => none }
def FnExactBasisOfProfileWrongFalsely : Prop := fnExactBasisOfProfileRow.holds Try.pinned (OpenSpec.ofChange fnExactBasisOfProfileWrong)

/-- 'laws.FnExactGeneratorForm': WHATEVER THE INPUT: true; the input reads as it did. -/
def fnExactGeneratorFormSpec : ChangeSpec := { name := "fnExactGeneratorForm", fn := fun _ => fun
  | [d] => { results := [.lit (.bool true)], args := [d] }
  | _ => none }
def fnExactGeneratorFormRow : OpenClaim := { program := "ytpgmggkpnefaeaa", sum := "4f976aa509585d672002e714a1316c0b5e4d25dd46b34a1cd716a106c0ab6ac2", func := "loop.example/g01154/laws.FnExactGeneratorForm", spec := "fnExactGeneratorForm", unfollowed := true, recurses := true, apart := false }
def FnExactGeneratorFormSaid : Prop := fnExactGeneratorFormRow.holds Try.pinned (OpenSpec.ofChange fnExactGeneratorFormSpec)

/-- ITS FALSE NEIGHBOUR: 'it returns false'. Refute it at one input. -/
def fnExactGeneratorFormWrong : ChangeSpec := { name := "fnExactGeneratorForm", fn := fun _ => fun
  | [d] => { results := [.lit (.bool false)], args := [d] }
  | _ => none }
def FnExactGeneratorFormWrongFalsely : Prop := fnExactGeneratorFormRow.holds Try.pinned (OpenSpec.ofChange fnExactGeneratorFormWrong)

/-- 'laws.FnExactAddSquares': WHATEVER THE INPUT: true; the input reads as it did. -/
def fnExactAddSquaresSpec : ChangeSpec := { name := "fnExactAddSquares", fn := fun _ => fun
  | [d1, d2] => { results := [.lit (.bool true)], args := [d1, d2] }
  | _ => none }
def fnExactAddSquaresRow : OpenClaim := { program := "ytpgmggkpnefaeaa", sum := "4f976aa509585d672002e714a1316c0b5e4d25dd46b34a1cd716a106c0ab6ac2", func := "loop.example/g01154/laws.FnExactAddSquares", spec := "fnExactAddSquares", unfollowed := true, recurses := true, apart := false }
def FnExactAddSquaresSaid : Prop := fnExactAddSquaresRow.holds Try.pinned (OpenSpec.ofChange fnExactAddSquaresSpec)

/-- ITS FALSE NEIGHBOUR: 'it returns false'. Refute it at one input. -/
def fnExactAddSquaresWrong : ChangeSpec := { name := "fnExactAddSquares", fn := fun _ => fun
  | [d1, d2] => { results := [.lit (.bool false)], args := [d1, d2] }
  | _ => none }
def FnExactAddSquaresWrongFalsely : Prop := fnExactAddSquaresRow.holds Try.pinned (OpenSpec.ofChange fnExactAddSquaresWrong)

/-- 'laws.FnExactMilnorOfWord': WHATEVER THE INPUT: true; the input reads as it did. -/
def fnExactMilnorOfWordSpec : ChangeSpec := { name := "fnExactMilnorOfWord", fn := fun _ => fun
  | [d] => { results := [.lit (.bool true)], args := [d] }
  | _ => none }
def fnExactMilnorOfWordRow : OpenClaim := { program := "ytpgmggkpnefaeaa", sum := "4f976aa509585d672002e714a1316c0b5e4d25dd46b34a1cd716a106c0ab6ac2", func := "loop.example/g01154/laws.FnExactMilnorOfWord", spec := "fnExactMilnorOfWord", unfollowed := true, recurses := true, apart := false }
def FnExactMilnorOfWordSaid : Prop := fnExactMilnorOfWordRow.holds Try.pinned (OpenSpec.ofChange fnExactMilnorOfWordSpec)

/-- ITS FALSE NEIGHBOUR: 'it returns false'. Refute it at one input. -/
def fnExactMilnorOfWordWrong : ChangeSpec := { name := "fnExactMilnorOfWord", fn := fun _ => fun
  | [d] => { results := [.lit (.bool false)], args := [d] }
  | _ => none }
def FnExactMilnorOfWordWrongFalsely : Prop := fnExactMilnorOfWordRow.holds Try.pinned (OpenSpec.ofChange fnExactMilnorOfWordWrong)

/- THE SECOND FORM. 'bulk': how many values and letters a reading holds, each counted each time it is reached (what is shared counts as often as it is met; a slice's spare places count too). A statement '..UptoSaid' is the law's where the arguments, and the package variables that the reading takes, are together of bulk at most 1048576: NARROWER than '..Said'. Prove '..Said' where nothing that the law and all that it calls make is longer than what came in: it says more and counts as full. Else prove '..UptoSaid'. A law counts once. -/
mutual
def uptoBulk {H : Type} : DataW H → Nat
  | .lit (.string bytes) => bytes.length + 1
  | .lit _ => 1
  | .nil => 1
  | .ptr d => uptoBulk d + 1
  | .slice elems spare => uptoBulkAll elems + uptoBulkAll spare + 1
  | .agg parts => uptoBulkAll parts + 1
  | .iface _ d => uptoBulk d + 1
  | .map entries => uptoBulkEntries entries + 1
  | .held _ => 1
def uptoBulkAll {H : Type} : List (DataW H) → Nat
  | [] => 0
  | d :: r => uptoBulk d + uptoBulkAll r
def uptoBulkEntries {H : Type} : List (Lit × DataW H) → Nat
  | [] => 0
  | x :: r => uptoBulkEntry x + uptoBulkEntries r
def uptoBulkEntry {H : Type} : Lit × DataW H → Nat
  | (.string bytes, d) => bytes.length + uptoBulk d + 1
  | (_, d) => uptoBulk d + 1
 end
def uptoSmall : (H : Type) → List (DataW H) → Bool := fun _ ds => decide (uptoBulkAll ds ≤ 1048576)
def OpenSpec.upto (s : _root_.Go.ChangeSpec) : _root_.Go.OpenSpec := { _root_.Go.OpenSpec.ofChange s with cond := some uptoSmall }

/-- 'laws.FnExactBasisChange', WHERE WHAT IT READS IS OF BULK AT MOST 1048576: true; the input reads as it did. -/
def fnExactBasisChangeUptoRow : OpenClaim := { program := "ytpgmggkpnefaeaa", sum := "4f976aa509585d672002e714a1316c0b5e4d25dd46b34a1cd716a106c0ab6ac2", func := "loop.example/g01154/laws.FnExactBasisChange", spec := "fnExactBasisChange", unfollowed := true, recurses := true, apart := false, narrowed := true }
def FnExactBasisChangeUptoSaid : Prop := fnExactBasisChangeUptoRow.holds Try.pinned (OpenSpec.upto fnExactBasisChangeSpec)

/-- 'laws.FnExactMilnorOfSquares', WHERE WHAT IT READS IS OF BULK AT MOST 1048576: true; the input reads as it did. -/
def fnExactMilnorOfSquaresUptoRow : OpenClaim := { program := "ytpgmggkpnefaeaa", sum := "4f976aa509585d672002e714a1316c0b5e4d25dd46b34a1cd716a106c0ab6ac2", func := "loop.example/g01154/laws.FnExactMilnorOfSquares", spec := "fnExactMilnorOfSquares", unfollowed := true, recurses := true, apart := false, narrowed := true }
def FnExactMilnorOfSquaresUptoSaid : Prop := fnExactMilnorOfSquaresUptoRow.holds Try.pinned (OpenSpec.upto fnExactMilnorOfSquaresSpec)

/-- 'laws.FnExactPartitionsOf', WHERE WHAT IT READS IS OF BULK AT MOST 1048576: true; the input reads as it did. -/
def fnExactPartitionsOfUptoRow : OpenClaim := { program := "ytpgmggkpnefaeaa", sum := "4f976aa509585d672002e714a1316c0b5e4d25dd46b34a1cd716a106c0ab6ac2", func := "loop.example/g01154/laws.FnExactPartitionsOf", spec := "fnExactPartitionsOf", unfollowed := true, recurses := true, apart := false, narrowed := true }
def FnExactPartitionsOfUptoSaid : Prop := fnExactPartitionsOfUptoRow.holds Try.pinned (OpenSpec.upto fnExactPartitionsOfSpec)

/-- 'laws.FnExactDualBasis', WHERE WHAT IT READS IS OF BULK AT MOST 1048576: true; the input reads as it did. -/
def fnExactDualBasisUptoRow : OpenClaim := { program := "ytpgmggkpnefaeaa", sum := "4f976aa509585d672002e714a1316c0b5e4d25dd46b34a1cd716a106c0ab6ac2", func := "loop.example/g01154/laws.FnExactDualBasis", spec := "fnExactDualBasis", unfollowed := true, recurses := true, apart := false, narrowed := true }
def FnExactDualBasisUptoSaid : Prop := fnExactDualBasisUptoRow.holds Try.pinned (OpenSpec.upto fnExactDualBasisSpec)

/-- 'laws.FnExactMilnorBasis', WHERE WHAT IT READS IS OF BULK AT MOST 1048576: true; the input reads as it did. -/
def fnExactMilnorBasisUptoRow : OpenClaim := { program := "ytpgmggkpnefaeaa", sum := "4f976aa509585d672002e714a1316c0b5e4d25dd46b34a1cd716a106c0ab6ac2", func := "loop.example/g01154/laws.FnExactMilnorBasis", spec := "fnExactMilnorBasis", unfollowed := true, recurses := true, apart := false, narrowed := true }
def FnExactMilnorBasisUptoSaid : Prop := fnExactMilnorBasisUptoRow.holds Try.pinned (OpenSpec.upto fnExactMilnorBasisSpec)

/-- 'laws.FnExactMilnorOfCoordinates', WHERE WHAT IT READS IS OF BULK AT MOST 1048576: true; the input reads as it did. -/
def fnExactMilnorOfCoordinatesUptoRow : OpenClaim := { program := "ytpgmggkpnefaeaa", sum := "4f976aa509585d672002e714a1316c0b5e4d25dd46b34a1cd716a106c0ab6ac2", func := "loop.example/g01154/laws.FnExactMilnorOfCoordinates", spec := "fnExactMilnorOfCoordinates", unfollowed := true, recurses := true, apart := false, narrowed := true }
def FnExactMilnorOfCoordinatesUptoSaid : Prop := fnExactMilnorOfCoordinatesUptoRow.holds Try.pinned (OpenSpec.upto fnExactMilnorOfCoordinatesSpec)

/-- 'laws.FnExactSumOfTermLists', WHERE WHAT IT READS IS OF BULK AT MOST 1048576: true; the input reads as it did. -/
def fnExactSumOfTermListsUptoRow : OpenClaim := { program := "ytpgmggkpnefaeaa", sum := "4f976aa509585d672002e714a1316c0b5e4d25dd46b34a1cd716a106c0ab6ac2", func := "loop.example/g01154/laws.FnExactSumOfTermLists", spec := "fnExactSumOfTermLists", unfollowed := true, recurses := true, apart := false, narrowed := true }
def FnExactSumOfTermListsUptoSaid : Prop := fnExactSumOfTermListsUptoRow.holds Try.pinned (OpenSpec.upto fnExactSumOfTermListsSpec)

/-- 'laws.FnExactBasisOfProfile', WHERE WHAT IT READS IS OF BULK AT MOST 1048576: true; the input reads as it did. -/
def fnExactBasisOfProfileUptoRow : OpenClaim := { program := "ytpgmggkpnefaeaa", sum := "4f976aa509585d672002e714a1316c0b5e4d25dd46b34a1cd716a106c0ab6ac2", func := "loop.example/g01154/laws.FnExactBasisOfProfile", spec := "fnExactBasisOfProfile", unfollowed := true, recurses := true, apart := false, narrowed := true }
def FnExactBasisOfProfileUptoSaid : Prop := fnExactBasisOfProfileUptoRow.holds Try.pinned (OpenSpec.upto fnExactBasisOfProfileSpec)

/-- 'laws.FnExactGeneratorForm', WHERE WHAT IT READS IS OF BULK AT MOST 1048576: true; the input reads as it did. -/
def fnExactGeneratorFormUptoRow : OpenClaim := { program := "ytpgmggkpnefaeaa", sum := "4f976aa509585d672002e714a1316c0b5e4d25dd46b34a1cd716a106c0ab6ac2", func := "loop.example/g01154/laws.FnExactGeneratorForm", spec := "fnExactGeneratorForm", unfollowed := true, recurses := true, apart := false, narrowed := true }
def FnExactGeneratorFormUptoSaid : Prop := fnExactGeneratorFormUptoRow.holds Try.pinned (OpenSpec.upto fnExactGeneratorFormSpec)

/-- 'laws.FnExactAddSquares', WHERE WHAT IT READS IS OF BULK AT MOST 1048576: true; the input reads as it did. -/
def fnExactAddSquaresUptoRow : OpenClaim := { program := "ytpgmggkpnefaeaa", sum := "4f976aa509585d672002e714a1316c0b5e4d25dd46b34a1cd716a106c0ab6ac2", func := "loop.example/g01154/laws.FnExactAddSquares", spec := "fnExactAddSquares", unfollowed := true, recurses := true, apart := false, narrowed := true }
def FnExactAddSquaresUptoSaid : Prop := fnExactAddSquaresUptoRow.holds Try.pinned (OpenSpec.upto fnExactAddSquaresSpec)

/-- 'laws.FnExactMilnorOfWord', WHERE WHAT IT READS IS OF BULK AT MOST 1048576: true; the input reads as it did. -/
def fnExactMilnorOfWordUptoRow : OpenClaim := { program := "ytpgmggkpnefaeaa", sum := "4f976aa509585d672002e714a1316c0b5e4d25dd46b34a1cd716a106c0ab6ac2", func := "loop.example/g01154/laws.FnExactMilnorOfWord", spec := "fnExactMilnorOfWord", unfollowed := true, recurses := true, apart := false, narrowed := true }
def FnExactMilnorOfWordUptoSaid : Prop := fnExactMilnorOfWordUptoRow.holds Try.pinned (OpenSpec.upto fnExactMilnorOfWordSpec)

end Rows
end Go.Proofs.Ytpgmggkpnefaeaa
