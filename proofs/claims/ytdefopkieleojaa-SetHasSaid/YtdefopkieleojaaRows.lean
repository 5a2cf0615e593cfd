/-
  No cell of these rows narrows 'for every input' (looked for: loops, veiled, ifaces, maps, wideKeys, modest, calm, conditions, laid).
  DERIVED. THE GIVEN ROWS OF THIS SEAT. 5 by the template 'for every input the law returns true; each argument reads behind the call as it read before'; 0 by the template 'total and deterministic' (their statements: YtdefopkieleojaaTotals.lean).
  GIVEN WITH THE SEED: the statements are not yours to turn. If you find one false, say at which input.
  Laid BY PROGRAM, IN A SANDBOX (cutbox-rows.mjs): the forced cells as the released guide's own fill.sh prints them over the translation 4095dc797085a592… (all of the seat's roots in one cut). By AI agents, Wed Nov 11 2026. No macro, syntax, notation, axiom, sorry.
-/
import Derived.Test.YtdefopkieleojaaChecked
import GoSem.Claim
import GoSem.ClaimJoined
import GoSem.ClaimMapViews
import Derived.JoinedTies
import Derived.KernelRfl
namespace Go.Proofs.Ytdefopkieleojaa
/- THE CELL 'sum', in the pinned program and in every row, IS THE sha256 OF THE DUMP (.gsa) THAT YtdefopkieleojaaProg.lean LOADS. Nothing in Lean hashes anything: it is a label: what it is worth is what the hold of that sum in a sandbox is worth. -/
noncomputable def Try.pinned : Pinned := { name := "ytdefopkieleojaa", sum := "4095dc797085a59286fdb00d806138a82181cdfae4bf534b3ce92a90156b7460", checked := Try.checked }
namespace Rows
def none {H : Type} : Left H := { results := [], args := [] }

/-- 'armisticelaw07.SetApplies': WHATEVER THE INPUT: true; the input reads as it did. -/
def setAppliesSpec : ChangeSpec := { name := "setApplies", fn := fun _ => fun
  | [d1, d2, d3, d4] => { results := [.lit (.bool true)], args := [d1, d2, d3, d4] }
  | _ => none }
def setAppliesRow : OpenClaim := { program := "ytdefopkieleojaa", sum := "4095dc797085a59286fdb00d806138a82181cdfae4bf534b3ce92a90156b7460", func := "armistice/armisticelaw07.SetApplies", spec := "setApplies", inPlace := ["slices.overlaps[int]"], unfollowed := true, recurses := true, apart := false }
def SetAppliesSaid : Prop := setAppliesRow.holds Try.pinned (OpenSpec.ofChange setAppliesSpec)

/-- ITS FALSE NEIGHBOUR: 'it returns false'. Refute it at one input. -/
def setAppliesWrong : ChangeSpec := { name := "setApplies", fn := fun _ => fun
  | [d1, d2, d3, d4] => { results := [.lit (.bool false)], args := [d1, d2, d3, d4] }
  | _ => none }
def SetAppliesWrongFalsely : Prop := setAppliesRow.holds Try.pinned (OpenSpec.ofChange setAppliesWrong)

/-- 'armisticelaw07.SetLists': WHATEVER THE INPUT: true; the input reads as it did. -/
def setListsSpec : ChangeSpec := { name := "setLists", fn := fun _ => fun
  | [d1, d2] => { results := [.lit (.bool true)], args := [d1, d2] }
  | _ => none }
def setListsRow : OpenClaim := { program := "ytdefopkieleojaa", sum := "4095dc797085a59286fdb00d806138a82181cdfae4bf534b3ce92a90156b7460", func := "armistice/armisticelaw07.SetLists", spec := "setLists", inPlace := ["slices.overlaps[int]"], unfollowed := true, recurses := true, apart := false }
def SetListsSaid : Prop := setListsRow.holds Try.pinned (OpenSpec.ofChange setListsSpec)

/-- ITS FALSE NEIGHBOUR: 'it returns false'. Refute it at one input. -/
def setListsWrong : ChangeSpec := { name := "setLists", fn := fun _ => fun
  | [d1, d2] => { results := [.lit (.bool false)], args := [d1, d2] }
  | _ => none }
def SetListsWrongFalsely : Prop := setListsRow.holds Try.pinned (OpenSpec.ofChange setListsWrong)

/-- 'armisticelaw07.SetKnown': WHATEVER THE INPUT: true; the input reads as it did. -/
def setKnownSpec : ChangeSpec := { name := "setKnown", fn := fun _ => fun
  | [] => { results := [.lit (.bool true)], args := [] }
  | _ => none }
def setKnownRow : OpenClaim := { program := "ytdefopkieleojaa", sum := "4095dc797085a59286fdb00d806138a82181cdfae4bf534b3ce92a90156b7460", func := "armistice/armisticelaw07.SetKnown", spec := "setKnown", inPlace := ["slices.overlaps[int]"], unfollowed := true, recurses := true, apart := false }
def SetKnownSaid : Prop := setKnownRow.holds Try.pinned (OpenSpec.ofChange setKnownSpec)

/-- ITS FALSE NEIGHBOUR: 'it returns false'. Refute it at one input. -/
def setKnownWrong : ChangeSpec := { name := "setKnown", fn := fun _ => fun
  | [] => { results := [.lit (.bool false)], args := [] }
  | _ => none }
def SetKnownWrongFalsely : Prop := setKnownRow.holds Try.pinned (OpenSpec.ofChange setKnownWrong)

/-- 'armisticelaw07.SetHas': WHATEVER THE INPUT: true; the input reads as it did. -/
def setHasSpec : ChangeSpec := { name := "setHas", fn := fun _ => fun
  | [d1, d2, d3, d4] => { results := [.lit (.bool true)], args := [d1, d2, d3, d4] }
  | _ => none }
def setHasRow : OpenClaim := { program := "ytdefopkieleojaa", sum := "4095dc797085a59286fdb00d806138a82181cdfae4bf534b3ce92a90156b7460", func := "armistice/armisticelaw07.SetHas", spec := "setHas", inPlace := ["slices.overlaps[int]"], unfollowed := true, recurses := true, apart := false }
def SetHasSaid : Prop := setHasRow.holds Try.pinned (OpenSpec.ofChange setHasSpec)

/-- ITS FALSE NEIGHBOUR: 'it returns false'. Refute it at one input. -/
def setHasWrong : ChangeSpec := { name := "setHas", fn := fun _ => fun
  | [d1, d2, d3, d4] => { results := [.lit (.bool false)], args := [d1, d2, d3, d4] }
  | _ => none }
def SetHasWrongFalsely : Prop := setHasRow.holds Try.pinned (OpenSpec.ofChange setHasWrong)

/-- 'armisticelaw07.SetGrows': WHATEVER THE INPUT: true; the input reads as it did. -/
def setGrowsSpec : ChangeSpec := { name := "setGrows", fn := fun _ => fun
  | [d] => { results := [.lit (.bool true)], args := [d] }
  | _ => none }
def setGrowsRow : OpenClaim := { program := "ytdefopkieleojaa", sum := "4095dc797085a59286fdb00d806138a82181cdfae4bf534b3ce92a90156b7460", func := "armistice/armisticelaw07.SetGrows", spec := "setGrows", inPlace := ["slices.overlaps[int]"], unfollowed := true, recurses := true, apart := false }
def SetGrowsSaid : Prop := setGrowsRow.holds Try.pinned (OpenSpec.ofChange setGrowsSpec)

/-- ITS FALSE NEIGHBOUR: 'it returns false'. Refute it at one input. -/
def setGrowsWrong : ChangeSpec := { name := "setGrows", fn := fun _ => fun
  | [d] => { results := [.lit (.bool false)], args := [d] }
  | _ => none }
def SetGrowsWrongFalsely : Prop := setGrowsRow.holds Try.pinned (OpenSpec.ofChange setGrowsWrong)

/- THE SECOND FORM. 'bulk': how many values and letters a reading holds, each counted each time it is reached (what is shared counts as often as it is met; a slice's spare places count too). A statement '..UptoSaid' is the law's where the arguments, and the package variables that the reading takes, are together of bulk at most 1048576: NARROWER than '..Said'. Prove '..Said' where nothing that the law and all that it calls make is longer than what came in: it says more and counts as full. Else prove '..UptoSaid'. A law counts once. -/
mutual
def uptoBulk {H : Type} : DataW H → Nat
  | .lit (.string bytes) => bytes.length + 1
  | .lit _ => 1
  | .nil => 1
  | .ptr d => uptoBulk d + 1
  | .slice elems spare => uptoBulkAll elems + uptoBulkAll spare + 1
  | .agg parts => uptoBulkAll parts + 1
  | .iface _ d => uptoBulk d + 1
  | .map entries => uptoBulkEntries entries + 1
  | .held _ => 1
def uptoBulkAll {H : Type} : List (DataW H) → Nat
  | [] => 0
  | d :: r => uptoBulk d + uptoBulkAll r
def uptoBulkEntries {H : Type} : List (Lit × DataW H) → Nat
  | [] => 0
  | x :: r => uptoBulkEntry x + uptoBulkEntries r
def uptoBulkEntry {H : Type} : Lit × DataW H → Nat
  | (.string bytes, d) => bytes.length + uptoBulk d + 1
  | (_, d) => uptoBulk d + 1
 end
def uptoSmall : (H : Type) → List (DataW H) → Bool := fun _ ds => decide (uptoBulkAll ds ≤ 1048576)
def OpenSpec.upto (s : _root_.Go.ChangeSpec) : _root_.Go.OpenSpec := { _root_.Go.OpenSpec.ofChange s with cond := some uptoSmall }

/-- 'armisticelaw07.SetApplies', WHERE WHAT IT READS IS OF BULK AT MOST 1048576: true; the input reads as it did. -/
def setAppliesUptoRow : OpenClaim := { program := "ytdefopkieleojaa", sum := "4095dc797085a59286fdb00d806138a82181cdfae4bf534b3ce92a90156b7460", func := "armistice/armisticelaw07.SetApplies", spec := "setApplies", inPlace := ["slices.overlaps[int]"], unfollowed := true, recurses := true, apart := false, narrowed := true }
def SetAppliesUptoSaid : Prop := setAppliesUptoRow.holds Try.pinned (OpenSpec.upto setAppliesSpec)

/-- 'armisticelaw07.SetLists', WHERE WHAT IT READS IS OF BULK AT MOST 1048576: true; the input reads as it did. -/
def setListsUptoRow : OpenClaim := { program := "ytdefopkieleojaa", sum := "4095dc797085a59286fdb00d806138a82181cdfae4bf534b3ce92a90156b7460", func := "armistice/armisticelaw07.SetLists", spec := "setLists", inPlace := ["slices.overlaps[int]"], unfollowed := true, recurses := true, apart := false, narrowed := true }
def SetListsUptoSaid : Prop := setListsUptoRow.holds Try.pinned (OpenSpec.upto setListsSpec)

/-- 'armisticelaw07.SetKnown', WHERE WHAT IT READS IS OF BULK AT MOST 1048576: true; the input reads as it did. -/
def setKnownUptoRow : OpenClaim := { program := "ytdefopkieleojaa", sum := "4095dc797085a59286fdb00d806138a82181cdfae4bf534b3ce92a90156b7460", func := "armistice/armisticelaw07.SetKnown", spec := "setKnown", inPlace := ["slices.overlaps[int]"], unfollowed := true, recurses := true, apart := false, narrowed := true }
def SetKnownUptoSaid : Prop := setKnownUptoRow.holds Try.pinned (OpenSpec.upto setKnownSpec)

/-- 'armisticelaw07.SetHas', WHERE WHAT IT READS IS OF BULK AT MOST 1048576: true; the input reads as it did. -/
def setHasUptoRow : OpenClaim := { program := "ytdefopkieleojaa", sum := "4095dc797085a59286fdb00d806138a82181cdfae4bf534b3ce92a90156b7460", func := "armistice/armisticelaw07.SetHas", spec := "setHas", inPlace := ["slices.overlaps[int]"], unfollowed := true, recurses := true, apart := false, narrowed := true }
def SetHasUptoSaid : Prop := setHasUptoRow.holds Try.pinned (OpenSpec.upto setHasSpec)

/-- 'armisticelaw07.SetGrows', WHERE WHAT IT READS IS OF BULK AT MOST 1048576: true; the input reads as it did. -/
def setGrowsUptoRow : OpenClaim := { program := "ytdefopkieleojaa", sum := "4095dc797085a59286fdb00d806138a82181cdfae4bf534b3ce92a90156b7460", func := "armistice/armisticelaw07.SetGrows", spec := "setGrows", inPlace := ["slices.overlaps[int]"], unfollowed := true, recurses := true, apart := false, narrowed := true }
def SetGrowsUptoSaid : Prop := setGrowsUptoRow.holds Try.pinned (OpenSpec.upto setGrowsSpec)

end Rows
end Go.Proofs.Ytdefopkieleojaa
