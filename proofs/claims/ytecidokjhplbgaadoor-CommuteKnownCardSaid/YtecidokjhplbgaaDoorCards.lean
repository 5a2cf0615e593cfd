/-
  DERIVED. GIVEN WITH THE SEED: THE CARDS: each row of YtecidokjhplbgaaDoorRows.lean that lists a variable, with what it lists TIED to the program's text (the seventh form; the later family's looks); each row that meets fmt, with fmt's text TOLD by the authors' own Lean function (tested against real Go, not proved from fmt's source: count such statements apart). THE CARD IS WHAT COUNTS. Prove the row's statement (the work); the ties are given (YtecidokjhplbgaaDoorTie.lean); close each card by the builder's one call (the guide's Derived/Test/ToyasCard.lean, 'card_holds'). Laid BY PROGRAM, IN A SANDBOX (cutbox-door.mjs). By AI agents, Wed Nov 11 2026. No macro, syntax, notation, axiom, sorry.
-/
import Derived.Test.YtecidokjhplbgaaDoorRows
import GoSem.ClaimSeven
namespace Go.Proofs.YtecidokjhplbgaaDoor
namespace Rows

/-- THE TIED CARD OF 'armisticelaw18.CommuteKnown'. -/
def commuteKnownCard : Claim7 := { stood := { row := commuteKnownRow, standIns := [], harness := (true, "5f3aef33f39941046c6e11a083256dc3b372172a18790acfc3407022261abdab"), looks := true }, kinds := [], alts := [], laidByText := true, laidKinds := [.data, .data, .data, .data, .sentinel, .sentinel, .pinned], laidTests := true, laidLooks := .later }
def CommuteKnownCardSaid : Prop := Claim7.holds Tryd.pinned (.plain (OpenSpec.ofChange commuteKnownSpec)) commuteKnownCard

/-- THE SECOND FORM's CARD OF 'armisticelaw18.CommuteKnown'. -/
def commuteKnownUptoCard : Claim7 := { stood := { row := commuteKnownUptoRow, standIns := [], harness := (true, "5f3aef33f39941046c6e11a083256dc3b372172a18790acfc3407022261abdab"), looks := true }, kinds := [], alts := [], laidByText := true, laidKinds := [.data, .data, .data, .data, .sentinel, .sentinel, .pinned], laidTests := true, laidLooks := .later }
def CommuteKnownUptoCardSaid : Prop := Claim7.holds Tryd.pinned (.plain (OpenSpec.upto commuteKnownSpec)) commuteKnownUptoCard
end Rows
end Go.Proofs.YtecidokjhplbgaaDoor
