/-
  DERIVED. GIVEN WITH THE SEED: THE CARDS: each row of YtecidokjhplbgaaGreatDoorRows.lean that lists a variable, with what it lists TIED to the program's text (the seventh form; the later family's looks); each row that meets fmt, with fmt's text TOLD by the authors' own Lean function (tested against real Go, not proved from fmt's source: count such statements apart). THE CARD IS WHAT COUNTS. Prove the row's statement (the work); the ties are given (YtecidokjhplbgaaGreatDoorTie.lean); close each card by the builder's one call (the guide's Derived/Test/ToyasCard.lean, 'card_holds'). Laid BY PROGRAM, IN A SANDBOX (cutbox-door.mjs). By AI agents, Wed Nov 11 2026. No macro, syntax, notation, axiom, sorry.
-/
import Derived.Test.YtecidokjhplbgaaGreatDoorRows
import GoSem.ClaimSeven
namespace Go.Proofs.YtecidokjhplbgaaGreatDoor
namespace Rows

/-- THE TIED CARD OF 'armisticelaw18.CommuteTells'. -/
def commuteTellsCard : Claim7 := { stood := { row := commuteTellsRow, standIns := [], harness := (true, "cd2665e79938b2743a230fa2a07035c081687039984f05f42770095e2b0ac921"), looks := true }, kinds := [], alts := [], laidByText := true, laidKinds := [.data, .data, .data, .data, .sentinel, .sentinel, .pinned], laidTests := true, laidLooks := .later }
def CommuteTellsCardSaid : Prop := Claim7.holds Tryz.pinned (.plain (OpenSpec.ofChange commuteTellsSpec)) commuteTellsCard

/-- THE TIED CARD OF 'armisticelaw18.CommuteTrans'. -/
def commuteTransCard : Claim7 := { stood := { row := commuteTransRow, standIns := [], harness := (true, "cd2665e79938b2743a230fa2a07035c081687039984f05f42770095e2b0ac921"), looks := true }, kinds := [], alts := [], laidByText := true, laidKinds := [.data, .data, .data, .data, .sentinel, .sentinel, .pinned], laidTests := true, laidLooks := .later }
def CommuteTransCardSaid : Prop := Claim7.holds Tryz.pinned (.plain (OpenSpec.ofChange commuteTransSpec)) commuteTransCard

/-- THE TIED CARD OF 'armisticelaw18.CommuteFails'. -/
def commuteFailsCard : Claim7 := { stood := { row := commuteFailsRow, standIns := [], harness := (true, "cd2665e79938b2743a230fa2a07035c081687039984f05f42770095e2b0ac921"), looks := true }, kinds := [], alts := [], laidByText := true, laidKinds := [.data, .data, .data, .data, .sentinel, .sentinel, .pinned], laidTests := true, laidLooks := .later }
def CommuteFailsCardSaid : Prop := Claim7.holds Tryz.pinned (.plain (OpenSpec.ofChange commuteFailsSpec)) commuteFailsCard

/-- THE TIED CARD OF 'armisticelaw18.CommuteHolds'. -/
def commuteHoldsCard : Claim7 := { stood := { row := commuteHoldsRow, standIns := [], harness := (true, "cd2665e79938b2743a230fa2a07035c081687039984f05f42770095e2b0ac921"), looks := true }, kinds := [], alts := [], laidByText := true, laidKinds := [.data, .data, .data, .data, .sentinel, .sentinel, .pinned], laidTests := true, laidLooks := .later }
def CommuteHoldsCardSaid : Prop := Claim7.holds Tryz.pinned (.plain (OpenSpec.ofChange commuteHoldsSpec)) commuteHoldsCard

/-- THE TIED CARD OF 'armisticelaw18.CommuteReplays'. -/
def commuteReplaysCard : Claim7 := { stood := { row := commuteReplaysRow, standIns := [], harness := (true, "cd2665e79938b2743a230fa2a07035c081687039984f05f42770095e2b0ac921"), looks := true }, kinds := [], alts := [], laidByText := true, laidKinds := [.data, .data, .data, .data, .sentinel, .sentinel, .pinned], laidTests := true, laidLooks := .later }
def CommuteReplaysCardSaid : Prop := Claim7.holds Tryz.pinned (.plain (OpenSpec.ofChange commuteReplaysSpec)) commuteReplaysCard

/-- THE SECOND FORM's CARD OF 'armisticelaw18.CommuteTells'. -/
def commuteTellsUptoCard : Claim7 := { stood := { row := commuteTellsUptoRow, standIns := [], harness := (true, "cd2665e79938b2743a230fa2a07035c081687039984f05f42770095e2b0ac921"), looks := true }, kinds := [], alts := [], laidByText := true, laidKinds := [.data, .data, .data, .data, .sentinel, .sentinel, .pinned], laidTests := true, laidLooks := .later }
def CommuteTellsUptoCardSaid : Prop := Claim7.holds Tryz.pinned (.plain (OpenSpec.upto commuteTellsSpec)) commuteTellsUptoCard

/-- THE SECOND FORM's CARD OF 'armisticelaw18.CommuteTrans'. -/
def commuteTransUptoCard : Claim7 := { stood := { row := commuteTransUptoRow, standIns := [], harness := (true, "cd2665e79938b2743a230fa2a07035c081687039984f05f42770095e2b0ac921"), looks := true }, kinds := [], alts := [], laidByText := true, laidKinds := [.data, .data, .data, .data, .sentinel, .sentinel, .pinned], laidTests := true, laidLooks := .later }
def CommuteTransUptoCardSaid : Prop := Claim7.holds Tryz.pinned (.plain (OpenSpec.upto commuteTransSpec)) commuteTransUptoCard

/-- THE SECOND FORM's CARD OF 'armisticelaw18.CommuteFails'. -/
def commuteFailsUptoCard : Claim7 := { stood := { row := commuteFailsUptoRow, standIns := [], harness := (true, "cd2665e79938b2743a230fa2a07035c081687039984f05f42770095e2b0ac921"), looks := true }, kinds := [], alts := [], laidByText := true, laidKinds := [.data, .data, .data, .data, .sentinel, .sentinel, .pinned], laidTests := true, laidLooks := .later }
def CommuteFailsUptoCardSaid : Prop := Claim7.holds Tryz.pinned (.plain (OpenSpec.upto commuteFailsSpec)) commuteFailsUptoCard

/-- THE SECOND FORM's CARD OF 'armisticelaw18.CommuteHolds'. -/
def commuteHoldsUptoCard : Claim7 := { stood := { row := commuteHoldsUptoRow, standIns := [], harness := (true, "cd2665e79938b2743a230fa2a07035c081687039984f05f42770095e2b0ac921"), looks := true }, kinds := [], alts := [], laidByText := true, laidKinds := [.data, .data, .data, .data, .sentinel, .sentinel, .pinned], laidTests := true, laidLooks := .later }
def CommuteHoldsUptoCardSaid : Prop := Claim7.holds Tryz.pinned (.plain (OpenSpec.upto commuteHoldsSpec)) commuteHoldsUptoCard

/-- THE SECOND FORM's CARD OF 'armisticelaw18.CommuteReplays'. -/
def commuteReplaysUptoCard : Claim7 := { stood := { row := commuteReplaysUptoRow, standIns := [], harness := (true, "cd2665e79938b2743a230fa2a07035c081687039984f05f42770095e2b0ac921"), looks := true }, kinds := [], alts := [], laidByText := true, laidKinds := [.data, .data, .data, .data, .sentinel, .sentinel, .pinned], laidTests := true, laidLooks := .later }
def CommuteReplaysUptoCardSaid : Prop := Claim7.holds Tryz.pinned (.plain (OpenSpec.upto commuteReplaysSpec)) commuteReplaysUptoCard
end Rows
end Go.Proofs.YtecidokjhplbgaaGreatDoor
