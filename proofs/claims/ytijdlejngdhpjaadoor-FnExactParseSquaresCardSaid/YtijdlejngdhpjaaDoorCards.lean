/-
  DERIVED. GIVEN WITH THE SEED: THE CARDS: each row of YtijdlejngdhpjaaDoorRows.lean that lists a variable, with what it lists TIED to the program's text (the seventh form; the later family's looks); each row that meets fmt, with fmt's text TOLD by the authors' own Lean function (tested against real Go, not proved from fmt's source: count such statements apart). THE CARD IS WHAT COUNTS. Prove the row's statement (the work); the ties are given (YtijdlejngdhpjaaDoorTie.lean); close each card by the builder's one call (the guide's Derived/Test/ToyasCard.lean, 'card_holds'). Laid BY PROGRAM, IN A SANDBOX (cutbox-door.mjs). By AI agents, Wed Nov 11 2026. No macro, syntax, notation, axiom, sorry.
-/
import Derived.Test.YtijdlejngdhpjaaDoorRows
import GoSem.ClaimSeven
namespace Go.Proofs.YtijdlejngdhpjaaDoor
namespace Rows

/-- THE TIED CARD OF 'laws.FnExactParseSquares'. -/
def fnExactParseSquaresCard : Claim7 := { stood := { row := fnExactParseSquaresRow, standIns := [], harness := (true, "8965b8ac83b5ec5f08072fd2cedfa376666787d7572c1df21e25bf2e9dc9cc6e"), looks := true }, kinds := [], alts := [], laidByText := true, laidKinds := [.data, .data, .data, .data, .sentinel, .sentinel, .pinned], laidTests := true, laidLooks := .later }
def FnExactParseSquaresCardSaid : Prop := Claim7.holds Tryd.pinned (.plain (OpenSpec.ofChange fnExactParseSquaresSpec)) fnExactParseSquaresCard

/-- THE TIED CARD OF 'laws.FnExactSquaresText'. -/
def fnExactSquaresTextCard : Claim7 := { stood := { row := fnExactSquaresTextRow, standIns := [], harness := (true, "8965b8ac83b5ec5f08072fd2cedfa376666787d7572c1df21e25bf2e9dc9cc6e"), looks := true }, kinds := [], alts := [], laidByText := true, laidKinds := [.data, .data, .data], laidTests := true, laidLooks := .later }
def FnExactSquaresTextCardSaid : Prop := Claim7.holds Tryd.pinned (.plain (OpenSpec.ofChange fnExactSquaresTextSpec)) fnExactSquaresTextCard

/-- THE SECOND FORM's CARD OF 'laws.FnExactParseSquares'. -/
def fnExactParseSquaresUptoCard : Claim7 := { stood := { row := fnExactParseSquaresUptoRow, standIns := [], harness := (true, "8965b8ac83b5ec5f08072fd2cedfa376666787d7572c1df21e25bf2e9dc9cc6e"), looks := true }, kinds := [], alts := [], laidByText := true, laidKinds := [.data, .data, .data, .data, .sentinel, .sentinel, .pinned], laidTests := true, laidLooks := .later }
def FnExactParseSquaresUptoCardSaid : Prop := Claim7.holds Tryd.pinned (.plain (OpenSpec.upto fnExactParseSquaresSpec)) fnExactParseSquaresUptoCard

/-- THE SECOND FORM's CARD OF 'laws.FnExactSquaresText'. -/
def fnExactSquaresTextUptoCard : Claim7 := { stood := { row := fnExactSquaresTextUptoRow, standIns := [], harness := (true, "8965b8ac83b5ec5f08072fd2cedfa376666787d7572c1df21e25bf2e9dc9cc6e"), looks := true }, kinds := [], alts := [], laidByText := true, laidKinds := [.data, .data, .data], laidTests := true, laidLooks := .later }
def FnExactSquaresTextUptoCardSaid : Prop := Claim7.holds Tryd.pinned (.plain (OpenSpec.upto fnExactSquaresTextSpec)) fnExactSquaresTextUptoCard
end Rows
end Go.Proofs.YtijdlejngdhpjaaDoor
