/-
  No cell of these rows narrows 'for every input' (looked for: loops, veiled, ifaces, maps, wideKeys, modest, calm, conditions, laid).
  DERIVED. THE GIVEN ROWS OF THIS SEAT. 14 by the template 'for every input the law returns true; each argument reads behind the call as it read before'; 0 by the template 'total and deterministic' (their statements: YtiajkfgicpidkaaTotals.lean).
  GIVEN WITH THE SEED: the statements are not yours to turn. If you find one false, say at which input.
  Laid BY PROGRAM, IN A SANDBOX (cutbox-rows.mjs): the forced cells as the released guide's own fill.sh prints them over the translation a0a091be983341f6… (all of the seat's roots in one cut). By AI agents, Wed Nov 11 2026. No macro, syntax, notation, axiom, sorry.
-/
import Derived.Test.YtiajkfgicpidkaaChecked
import GoSem.Claim
import GoSem.ClaimJoined
import GoSem.ClaimMapViews
import Derived.JoinedTies
import Derived.KernelRfl
namespace Go.Proofs.Ytiajkfgicpidkaa
/- THE CELL 'sum', in the pinned program and in every row, IS THE sha256 OF THE DUMP (.gsa) THAT YtiajkfgicpidkaaProg.lean LOADS. Nothing in Lean hashes anything: it is a label: what it is worth is what the hold of that sum in a sandbox is worth. -/
noncomputable def Try.pinned : Pinned := { name := "ytiajkfgicpidkaa", sum := "a0a091be983341f68474c1f1fccfa0bc5479922bb8847616637d92b22e0cd49a", checked := Try.checked }
namespace Rows
def none {H : Type} : Left H := { results := [], args := [] }

/-- 'laws.FnExactDegreeOf': WHATEVER THE INPUT: true; the input reads as it did. -/
def fnExactDegreeOfSpec : ChangeSpec := { name := "fnExactDegreeOf", fn := fun _ => fun
  | [d] => { results := [.lit (.bool true)], args := [d] }
  | _ => none }
def fnExactDegreeOfRow : OpenClaim := { program := "ytiajkfgicpidkaa", sum := "a0a091be983341f68474c1f1fccfa0bc5479922bb8847616637d92b22e0cd49a", func := "loop.example/g01154/laws.FnExactDegreeOf", spec := "fnExactDegreeOf", unfollowed := true, recurses := true, apart := false }
def FnExactDegreeOfSaid : Prop := fnExactDegreeOfRow.holds Try.pinned (OpenSpec.ofChange fnExactDegreeOfSpec)

/-- ITS FALSE NEIGHBOUR: 'it returns false'. Refute it at one input. -/
def fnExactDegreeOfWrong : ChangeSpec := { name := "fnExactDegreeOf", fn := fun _ => fun
  | [d] => { results := [.lit (.bool false)], args := [d] }
  | _ => none }
def FnExactDegreeOfWrongFalsely : Prop := fnExactDegreeOfRow.holds Try.pinned (OpenSpec.ofChange fnExactDegreeOfWrong)

/-- 'laws.FnExactIsContainedProfile': WHATEVER THE INPUT: true; the input reads as it did. -/
def fnExactIsContainedProfileSpec : ChangeSpec := { name := "fnExactIsContainedProfile", fn := fun _ => fun
  | [d1, d2] => { results := [.lit (.bool true)], args := [d1, d2] }
  | _ => none }
def fnExactIsContainedProfileRow : OpenClaim := { program := "ytiajkfgicpidkaa", sum := "a0a091be983341f68474c1f1fccfa0bc5479922bb8847616637d92b22e0cd49a", func := "loop.example/g01154/laws.FnExactIsContainedProfile", spec := "fnExactIsContainedProfile", unfollowed := true, recurses := true, apart := false }
def FnExactIsContainedProfileSaid : Prop := fnExactIsContainedProfileRow.holds Try.pinned (OpenSpec.ofChange fnExactIsContainedProfileSpec)

/-- ITS FALSE NEIGHBOUR: 'it returns false'. Refute it at one input. -/
def fnExactIsContainedProfileWrong : ChangeSpec := { name := "fnExactIsContainedProfile", fn := fun _ => fun
  | [d1, d2] => { results := [.lit (.bool false)], args := [d1, d2] }
  | _ => none }
def FnExactIsContainedProfileWrongFalsely : Prop := fnExactIsContainedProfileRow.holds Try.pinned (OpenSpec.ofChange fnExactIsContainedProfileWrong)

/-- 'laws.FnExactExcessOf': WHATEVER THE INPUT: true; the input reads as it did. -/
def fnExactExcessOfSpec : ChangeSpec := { name := "fnExactExcessOf", fn := fun _ => fun
  | [d] => { results := [.lit (.bool true)], args := [d] }
  | _ => none }
def fnExactExcessOfRow : OpenClaim := { program := "ytiajkfgicpidkaa", sum := "a0a091be983341f68474c1f1fccfa0bc5479922bb8847616637d92b22e0cd49a", func := "loop.example/g01154/laws.FnExactExcessOf", spec := "fnExactExcessOf", unfollowed := true, recurses := true, apart := false }
def FnExactExcessOfSaid : Prop := fnExactExcessOfRow.holds Try.pinned (OpenSpec.ofChange fnExactExcessOfSpec)

/-- ITS FALSE NEIGHBOUR: 'it returns false'. Refute it at one input. -/
def fnExactExcessOfWrong : ChangeSpec := { name := "fnExactExcessOf", fn := fun _ => fun
  | [d] => { results := [.lit (.bool false)], args := [d] }
  | _ => none }
def FnExactExcessOfWrongFalsely : Prop := fnExactExcessOfRow.holds Try.pinned (OpenSpec.ofChange fnExactExcessOfWrong)

/-- 'laws.FnExactSpikesOf': WHATEVER THE INPUT: true; the input reads as it did. -/
def fnExactSpikesOfSpec : ChangeSpec := { name := "fnExactSpikesOf", fn := fun _ => fun
  | [d] => { results := [.lit (.bool true)], args := [d] }
  | _ => none }
def fnExactSpikesOfRow : OpenClaim := { program := "ytiajkfgicpidkaa", sum := "a0a091be983341f68474c1f1fccfa0bc5479922bb8847616637d92b22e0cd49a", func := "loop.example/g01154/laws.FnExactSpikesOf", spec := "fnExactSpikesOf", recurses := true, apart := false }
def FnExactSpikesOfSaid : Prop := fnExactSpikesOfRow.holds Try.pinned (OpenSpec.ofChange fnExactSpikesOfSpec)

/-- ITS FALSE NEIGHBOUR: 'it returns false'. Refute it at one input. -/
def fnExactSpikesOfWrong : ChangeSpec := { name := "fnExactSpikesOf", fn := fun _ => fun
  | [d] => { results := [.lit (.bool false)], args := [d] }
  | _ => none }
def FnExactSpikesOfWrongFalsely : Prop := fnExactSpikesOfRow.holds Try.pinned (OpenSpec.ofChange fnExactSpikesOfWrong)

/-- 'laws.FnExactIsAdmissible': WHATEVER THE INPUT: true; the input reads as it did. -/
def fnExactIsAdmissibleSpec : ChangeSpec := { name := "fnExactIsAdmissible", fn := fun _ => fun
  | [d] => { results := [.lit (.bool true)], args := [d] }
  | _ => none }
def fnExactIsAdmissibleRow : OpenClaim := { program := "ytiajkfgicpidkaa", sum := "a0a091be983341f68474c1f1fccfa0bc5479922bb8847616637d92b22e0cd49a", func := "loop.example/g01154/laws.FnExactIsAdmissible", spec := "fnExactIsAdmissible", unfollowed := true, recurses := true, apart := false }
def FnExactIsAdmissibleSaid : Prop := fnExactIsAdmissibleRow.holds Try.pinned (OpenSpec.ofChange fnExactIsAdmissibleSpec)

/-- ITS FALSE NEIGHBOUR: 'it returns false'. Refute it at one input. -/
def fnExactIsAdmissibleWrong : ChangeSpec := { name := "fnExactIsAdmissible", fn := fun _ => fun
  | [d] => { results := [.lit (.bool false)], args := [d] }
  | _ => none }
def FnExactIsAdmissibleWrongFalsely : Prop := fnExactIsAdmissibleRow.holds Try.pinned (OpenSpec.ofChange fnExactIsAdmissibleWrong)

/-- 'laws.FnExactIsClosedProfile': WHATEVER THE INPUT: true; the input reads as it did. -/
def fnExactIsClosedProfileSpec : ChangeSpec := { name := "fnExactIsClosedProfile", fn := fun _ => fun
  | [d] => { results := [.lit (.bool true)], args := [d] }
  | _ => none }
def fnExactIsClosedProfileRow : OpenClaim := { program := "ytiajkfgicpidkaa", sum := "a0a091be983341f68474c1f1fccfa0bc5479922bb8847616637d92b22e0cd49a", func := "loop.example/g01154/laws.FnExactIsClosedProfile", spec := "fnExactIsClosedProfile", unfollowed := true, recurses := true, apart := false }
def FnExactIsClosedProfileSaid : Prop := fnExactIsClosedProfileRow.holds Try.pinned (OpenSpec.ofChange fnExactIsClosedProfileSpec)

/-- ITS FALSE NEIGHBOUR: 'it returns false'. Refute it at one input. -/
def fnExactIsClosedProfileWrong : ChangeSpec := { name := "fnExactIsClosedProfile", fn := fun _ => fun
  | [d] => { results := [.lit (.bool false)], args := [d] }
  | _ => none }
def FnExactIsClosedProfileWrongFalsely : Prop := fnExactIsClosedProfileRow.holds Try.pinned (OpenSpec.ofChange fnExactIsClosedProfileWrong)

/-- 'laws.FnExactAdmissibleBasis': WHATEVER THE INPUT: true; the input reads as it did. -/
def fnExactAdmissibleBasisSpec : ChangeSpec := { name := "fnExactAdmissibleBasis", fn := fun _ => fun
  | [d] => { results := [.lit (.bool true)], args := [d] }
  | _ => none }
def fnExactAdmissibleBasisRow : OpenClaim := { program := "ytiajkfgicpidkaa", sum := "a0a091be983341f68474c1f1fccfa0bc5479922bb8847616637d92b22e0cd49a", func := "loop.example/g01154/laws.FnExactAdmissibleBasis", spec := "fnExactAdmissibleBasis", recurses := true, apart := false }
def FnExactAdmissibleBasisSaid : Prop := fnExactAdmissibleBasisRow.holds Try.pinned (OpenSpec.ofChange fnExactAdmissibleBasisSpec)

/-- ITS FALSE NEIGHBOUR: 'it returns false'. Refute it at one input. -/
def fnExactAdmissibleBasisWrong : ChangeSpec := { name := "fnExactAdmissibleBasis", fn := fun _ => fun
  | [d] => { results := [.lit (.bool false)], args := [d] }
  | _ => none }
def FnExactAdmissibleBasisWrongFalsely : Prop := fnExactAdmissibleBasisRow.holds Try.pinned (OpenSpec.ofChange fnExactAdmissibleBasisWrong)

/-- 'laws.FnExactMonomialsOf': WHATEVER THE INPUT: true; the input reads as it did. -/
def fnExactMonomialsOfSpec : ChangeSpec := { name := "fnExactMonomialsOf", fn := fun _ => fun
  | [d1, d2] => { results := [.lit (.bool true)], args := [d1, d2] }
  | _ => none }
def fnExactMonomialsOfRow : OpenClaim := { program := "ytiajkfgicpidkaa", sum := "a0a091be983341f68474c1f1fccfa0bc5479922bb8847616637d92b22e0cd49a", func := "loop.example/g01154/laws.FnExactMonomialsOf", spec := "fnExactMonomialsOf", recurses := true, apart := false }
def FnExactMonomialsOfSaid : Prop := fnExactMonomialsOfRow.holds Try.pinned (OpenSpec.ofChange fnExactMonomialsOfSpec)

/-- ITS FALSE NEIGHBOUR: 'it returns false'. Refute it at one input. -/
def fnExactMonomialsOfWrong : ChangeSpec := { name := "fnExactMonomialsOf", fn := fun _ => fun
  | [d1, d2] => { results := [.lit (.bool false)], args := [d1, d2] }
  | _ => none }
def FnExactMonomialsOfWrongFalsely : Prop := fnExactMonomialsOfRow.holds Try.pinned (OpenSpec.ofChange fnExactMonomialsOfWrong)

/-- 'laws.FnExactMeetOfProfiles': WHATEVER THE INPUT: true; the input reads as it did. -/
def fnExactMeetOfProfilesSpec : ChangeSpec := { name := "fnExactMeetOfProfiles", fn := fun _ => fun
  | [d1, d2] => { results := [.lit (.bool true)], args := [d1, d2] }
  | _ => none }
def fnExactMeetOfProfilesRow : OpenClaim := { program := "ytiajkfgicpidkaa", sum := "a0a091be983341f68474c1f1fccfa0bc5479922bb8847616637d92b22e0cd49a", func := "loop.example/g01154/laws.FnExactMeetOfProfiles", spec := "fnExactMeetOfProfiles", unfollowed := true, recurses := true, apart := false }
def FnExactMeetOfProfilesSaid : Prop := fnExactMeetOfProfilesRow.holds Try.pinned (OpenSpec.ofChange fnExactMeetOfProfilesSpec)

/-- ITS FALSE NEIGHBOUR: 'it returns false'. Refute it at one input. -/
def fnExactMeetOfProfilesWrong : ChangeSpec := { name := "fnExactMeetOfProfiles", fn := fun _ => fun
  | [d1, d2] => { results := [.lit (.bool false)], args := [d1, d2] }
  | _ => none }
def FnExactMeetOfProfilesWrongFalsely : Prop := fnExactMeetOfProfilesRow.holds Try.pinned (OpenSpec.ofChange fnExactMeetOfProfilesWrong)

/-- 'laws.FnExactSeriesOfProfile': WHATEVER THE INPUT: true; the input reads as it did. -/
def fnExactSeriesOfProfileSpec : ChangeSpec := { name := "fnExactSeriesOfProfile", fn := fun _ => fun
  | [d1, d2] => { results := [.lit (.bool true)], args := [d1, d2] }
  | _ => none }
def fnExactSeriesOfProfileRow : OpenClaim := { program := "ytiajkfgicpidkaa", sum := "a0a091be983341f68474c1f1fccfa0bc5479922bb8847616637d92b22e0cd49a", func := "loop.example/g01154/laws.FnExactSeriesOfProfile", spec := "fnExactSeriesOfProfile", unfollowed := true, recurses := true, apart := false }
def FnExactSeriesOfProfileSaid : Prop := fnExactSeriesOfProfileRow.holds Try.pinned (OpenSpec.ofChange fnExactSeriesOfProfileSpec)

/-- ITS FALSE NEIGHBOUR: 'it returns false'. Refute it at one input. -/
def fnExactSeriesOfProfileWrong : ChangeSpec := { name := "fnExactSeriesOfProfile", fn := fun _ => fun
  | [d1, d2] => { results := [.lit (.bool false)], args := [d1, d2] }
  | _ => none }
def FnExactSeriesOfProfileWrongFalsely : Prop := fnExactSeriesOfProfileRow.holds Try.pinned (OpenSpec.ofChange fnExactSeriesOfProfileWrong)

/-- 'laws.FnExactAdmissibleWithin': WHATEVER THE INPUT: true; the input reads as it did. -/
def fnExactAdmissibleWithinSpec : ChangeSpec := { name := "fnExactAdmissibleWithin", fn := fun _ => fun
  | [d1, d2] => { results := [.lit (.bool true)], args := [d1, d2] }
  | _ => none }
def fnExactAdmissibleWithinRow : OpenClaim := { program := "ytiajkfgicpidkaa", sum := "a0a091be983341f68474c1f1fccfa0bc5479922bb8847616637d92b22e0cd49a", func := "loop.example/g01154/laws.FnExactAdmissibleWithin", spec := "fnExactAdmissibleWithin", recurses := true, apart := false }
def FnExactAdmissibleWithinSaid : Prop := fnExactAdmissibleWithinRow.holds Try.pinned (OpenSpec.ofChange fnExactAdmissibleWithinSpec)

/-- ITS FALSE NEIGHBOUR: 'it returns false'. Refute it at one input. -/
def fnExactAdmissibleWithinWrong : ChangeSpec := { name := "fnExactAdmissibleWithin", fn := fun _ => fun
  | [d1, d2] => { results := [.lit (.bool false)], args := [d1, d2] }
  | _ => none }
def FnExactAdmissibleWithinWrongFalsely : Prop := fnExactAdmissibleWithinRow.holds Try.pinned (OpenSpec.ofChange fnExactAdmissibleWithinWrong)

/-- 'laws.FnExactClosureOfProfile': WHATEVER THE INPUT: true; the input reads as it did. -/
def fnExactClosureOfProfileSpec : ChangeSpec := { name := "fnExactClosureOfProfile", fn := fun _ => fun
  | [d] => { results := [.lit (.bool true)], args := [d] }
  | _ => none }
def fnExactClosureOfProfileRow : OpenClaim := { program := "ytiajkfgicpidkaa", sum := "a0a091be983341f68474c1f1fccfa0bc5479922bb8847616637d92b22e0cd49a", func := "loop.example/g01154/laws.FnExactClosureOfProfile", spec := "fnExactClosureOfProfile", unfollowed := true, recurses := true, apart := false }
def FnExactClosureOfProfileSaid : Prop := fnExactClosureOfProfileRow.holds Try.pinned (OpenSpec.ofChange fnExactClosureOfProfileSpec)

/-- ITS FALSE NEIGHBOUR: 'it returns false'. Refute it at one input. -/
def fnExactClosureOfProfileWrong : ChangeSpec := { name := "fnExactClosureOfProfile", fn := fun _ => fun
  | [d] => { results := [.lit (.bool false)], args := [d] }
  | _ => none }
def FnExactClosureOfProfileWrongFalsely : Prop := fnExactClosureOfProfileRow.holds Try.pinned (OpenSpec.ofChange fnExactClosureOfProfileWrong)

/-- 'laws.FnExactQuotientSeries': WHATEVER THE INPUT: true; the input reads as it did. -/
def fnExactQuotientSeriesSpec : ChangeSpec := { name := "fnExactQuotientSeries", fn := fun _ => fun
  | [d1, d2] => { results := [.lit (.bool true)], args := [d1, d2] }
  | _ => none }
def fnExactQuotientSeriesRow : OpenClaim := { program := "ytiajkfgicpidkaa", sum := "a0a091be983341f68474c1f1fccfa0bc5479922bb8847616637d92b22e0cd49a", func := "loop.example/g01154/laws.FnExactQuotientSeries", spec := "fnExactQuotientSeries", unfollowed := true, recurses := true, apart := false }
def FnExactQuotientSeriesSaid : Prop := fnExactQuotientSeriesRow.holds Try.pinned (OpenSpec.ofChange fnExactQuotientSeriesSpec)

/-- ITS FALSE NEIGHBOUR: 'it returns false'. Refute it at one input. -/
def fnExactQuotientSeriesWrong : ChangeSpec := { name := "fnExactQuotientSeries", fn := fun _ => fun
  | [d1, d2] => { results := [.lit (.bool false)], args := [d1, d2] }
  | _ => none }
def FnExactQuotientSeriesWrongFalsely : Prop := fnExactQuotientSeriesRow.holds Try.pinned (OpenSpec.ofChange fnExactQuotientSeriesWrong)

/-- 'laws.FnSpikes': WHATEVER THE INPUT: true; the input reads as it did. -/
def fnSpikesSpec : ChangeSpec := { name := "fnSpikes", fn := fun _ => fun
  | [d] => { results := [.lit (.bool true)], args := [d] }
  | _ => none }
def fnSpikesRow : OpenClaim := { program := "ytiajkfgicpidkaa", sum := "a0a091be983341f68474c1f1fccfa0bc5479922bb8847616637d92b22e0cd49a", func := "loop.example/g01154/laws.FnSpikes", spec := "fnSpikes", recurses := true, apart := false }
def FnSpikesSaid : Prop := fnSpikesRow.holds Try.pinned (OpenSpec.ofChange fnSpikesSpec)

/-- ITS FALSE NEIGHBOUR: 'it returns false'. Refute it at one input. -/
def fnSpikesWrong : ChangeSpec := { name := "fnSpikes", fn := fun _ => fun
  | [d] => { results := [.lit (.bool false)], args := [d] }
  | _ => none }
def FnSpikesWrongFalsely : Prop := fnSpikesRow.holds Try.pinned (OpenSpec.ofChange fnSpikesWrong)

/- THE SECOND FORM. 'bulk': how many values and letters a reading holds, each counted each time it is reached (what is shared counts as often as it is met; a slice's spare places count too). A statement '..UptoSaid' is the law's where the arguments, and the package variables that the reading takes, are together of bulk at most 1048576: NARROWER than '..Said'. Prove '..Said' where nothing that the law and all that it calls make is longer than what came in: it says more and counts as full. Else prove '..UptoSaid'. A law counts once. -/
mutual
def uptoBulk {H : Type} : DataW H → Nat
  | .lit (.string bytes) => bytes.length + 1
  | .lit _ => 1
  | .nil => 1
  | .ptr d => uptoBulk d + 1
  | .slice elems spare => uptoBulkAll elems + uptoBulkAll spare + 1
  | .agg parts => uptoBulkAll parts + 1
  | .iface _ d => uptoBulk d + 1
  | .map entries => uptoBulkEntries entries + 1
  | .held _ => 1
def uptoBulkAll {H : Type} : List (DataW H) → Nat
  | [] => 0
  | d :: r => uptoBulk d + uptoBulkAll r
def uptoBulkEntries {H : Type} : List (Lit × DataW H) → Nat
  | [] => 0
  | x :: r => uptoBulkEntry x + uptoBulkEntries r
def uptoBulkEntry {H : Type} : Lit × DataW H → Nat
  | (.string bytes, d) => bytes.length + uptoBulk d + 1
  | (_, d) => uptoBulk d + 1
 end
def uptoSmall : (H : Type) → List (DataW H) → Bool := fun _ ds => decide (uptoBulkAll ds ≤ 1048576)
def OpenSpec.upto (s : _root_.Go.ChangeSpec) : _root_.Go.OpenSpec := { _root_.Go.OpenSpec.ofChange s with cond := some uptoSmall }

/-- 'laws.FnExactDegreeOf', WHERE WHAT IT READS IS OF BULK AT MOST 1048576: true; the input reads as it did. -/
def fnExactDegreeOfUptoRow : OpenClaim := { program := "ytiajkfgicpidkaa", sum := "a0a091be983341f68474c1f1fccfa0bc5479922bb8847616637d92b22e0cd49a", func := "loop.example/g01154/laws.FnExactDegreeOf", spec := "fnExactDegreeOf", unfollowed := true, recurses := true, apart := false, narrowed := true }
def FnExactDegreeOfUptoSaid : Prop := fnExactDegreeOfUptoRow.holds Try.pinned (OpenSpec.upto fnExactDegreeOfSpec)

/-- 'laws.FnExactIsContainedProfile', WHERE WHAT IT READS IS OF BULK AT MOST 1048576: true; the input reads as it did. -/
def fnExactIsContainedProfileUptoRow : OpenClaim := { program := "ytiajkfgicpidkaa", sum := "a0a091be983341f68474c1f1fccfa0bc5479922bb8847616637d92b22e0cd49a", func := "loop.example/g01154/laws.FnExactIsContainedProfile", spec := "fnExactIsContainedProfile", unfollowed := true, recurses := true, apart := false, narrowed := true }
def FnExactIsContainedProfileUptoSaid : Prop := fnExactIsContainedProfileUptoRow.holds Try.pinned (OpenSpec.upto fnExactIsContainedProfileSpec)

/-- 'laws.FnExactExcessOf', WHERE WHAT IT READS IS OF BULK AT MOST 1048576: true; the input reads as it did. -/
def fnExactExcessOfUptoRow : OpenClaim := { program := "ytiajkfgicpidkaa", sum := "a0a091be983341f68474c1f1fccfa0bc5479922bb8847616637d92b22e0cd49a", func := "loop.example/g01154/laws.FnExactExcessOf", spec := "fnExactExcessOf", unfollowed := true, recurses := true, apart := false, narrowed := true }
def FnExactExcessOfUptoSaid : Prop := fnExactExcessOfUptoRow.holds Try.pinned (OpenSpec.upto fnExactExcessOfSpec)

/-- 'laws.FnExactSpikesOf', WHERE WHAT IT READS IS OF BULK AT MOST 1048576: true; the input reads as it did. -/
def fnExactSpikesOfUptoRow : OpenClaim := { program := "ytiajkfgicpidkaa", sum := "a0a091be983341f68474c1f1fccfa0bc5479922bb8847616637d92b22e0cd49a", func := "loop.example/g01154/laws.FnExactSpikesOf", spec := "fnExactSpikesOf", recurses := true, apart := false, narrowed := true }
def FnExactSpikesOfUptoSaid : Prop := fnExactSpikesOfUptoRow.holds Try.pinned (OpenSpec.upto fnExactSpikesOfSpec)

/-- 'laws.FnExactIsAdmissible', WHERE WHAT IT READS IS OF BULK AT MOST 1048576: true; the input reads as it did. -/
def fnExactIsAdmissibleUptoRow : OpenClaim := { program := "ytiajkfgicpidkaa", sum := "a0a091be983341f68474c1f1fccfa0bc5479922bb8847616637d92b22e0cd49a", func := "loop.example/g01154/laws.FnExactIsAdmissible", spec := "fnExactIsAdmissible", unfollowed := true, recurses := true, apart := false, narrowed := true }
def FnExactIsAdmissibleUptoSaid : Prop := fnExactIsAdmissibleUptoRow.holds Try.pinned (OpenSpec.upto fnExactIsAdmissibleSpec)

/-- 'laws.FnExactIsClosedProfile', WHERE WHAT IT READS IS OF BULK AT MOST 1048576: true; the input reads as it did. -/
def fnExactIsClosedProfileUptoRow : OpenClaim := { program := "ytiajkfgicpidkaa", sum := "a0a091be983341f68474c1f1fccfa0bc5479922bb8847616637d92b22e0cd49a", func := "loop.example/g01154/laws.FnExactIsClosedProfile", spec := "fnExactIsClosedProfile", unfollowed := true, recurses := true, apart := false, narrowed := true }
def FnExactIsClosedProfileUptoSaid : Prop := fnExactIsClosedProfileUptoRow.holds Try.pinned (OpenSpec.upto fnExactIsClosedProfileSpec)

/-- 'laws.FnExactAdmissibleBasis', WHERE WHAT IT READS IS OF BULK AT MOST 1048576: true; the input reads as it did. -/
def fnExactAdmissibleBasisUptoRow : OpenClaim := { program := "ytiajkfgicpidkaa", sum := "a0a091be983341f68474c1f1fccfa0bc5479922bb8847616637d92b22e0cd49a", func := "loop.example/g01154/laws.FnExactAdmissibleBasis", spec := "fnExactAdmissibleBasis", recurses := true, apart := false, narrowed := true }
def FnExactAdmissibleBasisUptoSaid : Prop := fnExactAdmissibleBasisUptoRow.holds Try.pinned (OpenSpec.upto fnExactAdmissibleBasisSpec)

/-- 'laws.FnExactMonomialsOf', WHERE WHAT IT READS IS OF BULK AT MOST 1048576: true; the input reads as it did. -/
def fnExactMonomialsOfUptoRow : OpenClaim := { program := "ytiajkfgicpidkaa", sum := "a0a091be983341f68474c1f1fccfa0bc5479922bb8847616637d92b22e0cd49a", func := "loop.example/g01154/laws.FnExactMonomialsOf", spec := "fnExactMonomialsOf", recurses := true, apart := false, narrowed := true }
def FnExactMonomialsOfUptoSaid : Prop := fnExactMonomialsOfUptoRow.holds Try.pinned (OpenSpec.upto fnExactMonomialsOfSpec)

/-- 'laws.FnExactMeetOfProfiles', WHERE WHAT IT READS IS OF BULK AT MOST 1048576: true; the input reads as it did. -/
def fnExactMeetOfProfilesUptoRow : OpenClaim := { program := "ytiajkfgicpidkaa", sum := "a0a091be983341f68474c1f1fccfa0bc5479922bb8847616637d92b22e0cd49a", func := "loop.example/g01154/laws.FnExactMeetOfProfiles", spec := "fnExactMeetOfProfiles", unfollowed := true, recurses := true, apart := false, narrowed := true }
def FnExactMeetOfProfilesUptoSaid : Prop := fnExactMeetOfProfilesUptoRow.holds Try.pinned (OpenSpec.upto fnExactMeetOfProfilesSpec)

/-- 'laws.FnExactSeriesOfProfile', WHERE WHAT IT READS IS OF BULK AT MOST 1048576: true; the input reads as it did. -/
def fnExactSeriesOfProfileUptoRow : OpenClaim := { program := "ytiajkfgicpidkaa", sum := "a0a091be983341f68474c1f1fccfa0bc5479922bb8847616637d92b22e0cd49a", func := "loop.example/g01154/laws.FnExactSeriesOfProfile", spec := "fnExactSeriesOfProfile", unfollowed := true, recurses := true, apart := false, narrowed := true }
def FnExactSeriesOfProfileUptoSaid : Prop := fnExactSeriesOfProfileUptoRow.holds Try.pinned (OpenSpec.upto fnExactSeriesOfProfileSpec)

/-- 'laws.FnExactAdmissibleWithin', WHERE WHAT IT READS IS OF BULK AT MOST 1048576: true; the input reads as it did. -/
def fnExactAdmissibleWithinUptoRow : OpenClaim := { program := "ytiajkfgicpidkaa", sum := "a0a091be983341f68474c1f1fccfa0bc5479922bb8847616637d92b22e0cd49a", func := "loop.example/g01154/laws.FnExactAdmissibleWithin", spec := "fnExactAdmissibleWithin", recurses := true, apart := false, narrowed := true }
def FnExactAdmissibleWithinUptoSaid : Prop := fnExactAdmissibleWithinUptoRow.holds Try.pinned (OpenSpec.upto fnExactAdmissibleWithinSpec)

/-- 'laws.FnExactClosureOfProfile', WHERE WHAT IT READS IS OF BULK AT MOST 1048576: true; the input reads as it did. -/
def fnExactClosureOfProfileUptoRow : OpenClaim := { program := "ytiajkfgicpidkaa", sum := "a0a091be983341f68474c1f1fccfa0bc5479922bb8847616637d92b22e0cd49a", func := "loop.example/g01154/laws.FnExactClosureOfProfile", spec := "fnExactClosureOfProfile", unfollowed := true, recurses := true, apart := false, narrowed := true }
def FnExactClosureOfProfileUptoSaid : Prop := fnExactClosureOfProfileUptoRow.holds Try.pinned (OpenSpec.upto fnExactClosureOfProfileSpec)

/-- 'laws.FnExactQuotientSeries', WHERE WHAT IT READS IS OF BULK AT MOST 1048576: true; the input reads as it did. -/
def fnExactQuotientSeriesUptoRow : OpenClaim := { program := "ytiajkfgicpidkaa", sum := "a0a091be983341f68474c1f1fccfa0bc5479922bb8847616637d92b22e0cd49a", func := "loop.example/g01154/laws.FnExactQuotientSeries", spec := "fnExactQuotientSeries", unfollowed := true, recurses := true, apart := false, narrowed := true }
def FnExactQuotientSeriesUptoSaid : Prop := fnExactQuotientSeriesUptoRow.holds Try.pinned (OpenSpec.upto fnExactQuotientSeriesSpec)

/-- 'laws.FnSpikes', WHERE WHAT IT READS IS OF BULK AT MOST 1048576: true; the input reads as it did. -/
def fnSpikesUptoRow : OpenClaim := { program := "ytiajkfgicpidkaa", sum := "a0a091be983341f68474c1f1fccfa0bc5479922bb8847616637d92b22e0cd49a", func := "loop.example/g01154/laws.FnSpikes", spec := "fnSpikes", recurses := true, apart := false, narrowed := true }
def FnSpikesUptoSaid : Prop := fnSpikesUptoRow.holds Try.pinned (OpenSpec.upto fnSpikesSpec)

end Rows
end Go.Proofs.Ytiajkfgicpidkaa
