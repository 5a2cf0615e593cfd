/-
  No cell of these rows narrows 'for every input' (looked for: loops, veiled, ifaces, maps, wideKeys, modest, calm, conditions, laid).
  DERIVED. THE GIVEN ROWS OF THIS SEAT. 6 by the template 'for every input the law returns true; each argument reads behind the call as it read before'; 0 by the template 'total and deterministic' (their statements: YtjbbhccoamhbgaaTotals.lean).
  GIVEN WITH THE SEED: the statements are not yours to turn. If you find one false, say at which input.
  Laid BY PROGRAM, IN A SANDBOX (cutbox-rows.mjs): the forced cells as the released guide's own fill.sh prints them over the translation 9909fc9ebff0a22c… (all of the seat's roots in one cut). By AI agents, Wed Nov 11 2026. No macro, syntax, notation, axiom, sorry.
-/
import Derived.Test.YtjbbhccoamhbgaaChecked
import GoSem.Claim
import GoSem.ClaimJoined
import GoSem.ClaimMapViews
import Derived.JoinedTies
import Derived.KernelRfl
namespace Go.Proofs.Ytjbbhccoamhbgaa
/- THE CELL 'sum', in the pinned program and in every row, IS THE sha256 OF THE DUMP (.gsa) THAT YtjbbhccoamhbgaaProg.lean LOADS. Nothing in Lean hashes anything: it is a label: what it is worth is what the hold of that sum in a sandbox is worth. -/
noncomputable def Try.pinned : Pinned := { name := "ytjbbhccoamhbgaa", sum := "9909fc9ebff0a22cb5174fb3fb9973b9d60ff72498faff7c86833642f5f2baa5", checked := Try.checked }
namespace Rows
def none {H : Type} : Left H := { results := [], args := [] }

/-- 'armisticelaw10.EscrowApplies': WHATEVER THE INPUT: true; the input reads as it did. -/
def escrowAppliesSpec : ChangeSpec := { name := "escrowApplies", fn := fun _ => fun
  | [d1, d2, d3, d4] => { results := [.lit (.bool true)], args := [d1, d2, d3, d4] }
  | _ => none }
def escrowAppliesRow : OpenClaim := { program := "ytjbbhccoamhbgaa", sum := "9909fc9ebff0a22cb5174fb3fb9973b9d60ff72498faff7c86833642f5f2baa5", func := "armistice/armisticelaw10.EscrowApplies", spec := "escrowApplies", unfollowed := true, recurses := true, apart := false }
def EscrowAppliesSaid : Prop := escrowAppliesRow.holds Try.pinned (OpenSpec.ofChange escrowAppliesSpec)

/-- ITS FALSE NEIGHBOUR: 'it returns false'. Refute it at one input. -/
def escrowAppliesWrong : ChangeSpec := { name := "escrowApplies", fn := fun _ => fun
  | [d1, d2, d3, d4] => { results := [.lit (.bool false)], args := [d1, d2, d3, d4] }
  | _ => none }
def EscrowAppliesWrongFalsely : Prop := escrowAppliesRow.holds Try.pinned (OpenSpec.ofChange escrowAppliesWrong)

/-- 'armisticelaw10.EscrowRanges': WHATEVER THE INPUT: true; the input reads as it did. -/
def escrowRangesSpec : ChangeSpec := { name := "escrowRanges", fn := fun _ => fun
  | [d1, d2, d3, d4] => { results := [.lit (.bool true)], args := [d1, d2, d3, d4] }
  | _ => none }
def escrowRangesRow : OpenClaim := { program := "ytjbbhccoamhbgaa", sum := "9909fc9ebff0a22cb5174fb3fb9973b9d60ff72498faff7c86833642f5f2baa5", func := "armistice/armisticelaw10.EscrowRanges", spec := "escrowRanges", unfollowed := true, recurses := true, apart := false }
def EscrowRangesSaid : Prop := escrowRangesRow.holds Try.pinned (OpenSpec.ofChange escrowRangesSpec)

/-- ITS FALSE NEIGHBOUR: 'it returns false'. Refute it at one input. -/
def escrowRangesWrong : ChangeSpec := { name := "escrowRanges", fn := fun _ => fun
  | [d1, d2, d3, d4] => { results := [.lit (.bool false)], args := [d1, d2, d3, d4] }
  | _ => none }
def EscrowRangesWrongFalsely : Prop := escrowRangesRow.holds Try.pinned (OpenSpec.ofChange escrowRangesWrong)

/-- 'armisticelaw10.EscrowKnown': WHATEVER THE INPUT: true; the input reads as it did. -/
def escrowKnownSpec : ChangeSpec := { name := "escrowKnown", fn := fun _ => fun
  | [] => { results := [.lit (.bool true)], args := [] }
  | _ => none }
def escrowKnownRow : OpenClaim := { program := "ytjbbhccoamhbgaa", sum := "9909fc9ebff0a22cb5174fb3fb9973b9d60ff72498faff7c86833642f5f2baa5", func := "armistice/armisticelaw10.EscrowKnown", spec := "escrowKnown", unfollowed := true, recurses := true, apart := false }
def EscrowKnownSaid : Prop := escrowKnownRow.holds Try.pinned (OpenSpec.ofChange escrowKnownSpec)

/-- ITS FALSE NEIGHBOUR: 'it returns false'. Refute it at one input. -/
def escrowKnownWrong : ChangeSpec := { name := "escrowKnown", fn := fun _ => fun
  | [] => { results := [.lit (.bool false)], args := [] }
  | _ => none }
def EscrowKnownWrongFalsely : Prop := escrowKnownRow.holds Try.pinned (OpenSpec.ofChange escrowKnownWrong)

/-- 'armisticelaw10.EscrowStays': WHATEVER THE INPUT: true; the input reads as it did. -/
def escrowStaysSpec : ChangeSpec := { name := "escrowStays", fn := fun _ => fun
  | [d1, d2, d3] => { results := [.lit (.bool true)], args := [d1, d2, d3] }
  | _ => none }
def escrowStaysRow : OpenClaim := { program := "ytjbbhccoamhbgaa", sum := "9909fc9ebff0a22cb5174fb3fb9973b9d60ff72498faff7c86833642f5f2baa5", func := "armistice/armisticelaw10.EscrowStays", spec := "escrowStays", unfollowed := true, recurses := true, apart := false }
def EscrowStaysSaid : Prop := escrowStaysRow.holds Try.pinned (OpenSpec.ofChange escrowStaysSpec)

/-- ITS FALSE NEIGHBOUR: 'it returns false'. Refute it at one input. -/
def escrowStaysWrong : ChangeSpec := { name := "escrowStays", fn := fun _ => fun
  | [d1, d2, d3] => { results := [.lit (.bool false)], args := [d1, d2, d3] }
  | _ => none }
def EscrowStaysWrongFalsely : Prop := escrowStaysRow.holds Try.pinned (OpenSpec.ofChange escrowStaysWrong)

/-- 'armisticelaw10.EscrowWhere': WHATEVER THE INPUT: true; the input reads as it did. -/
def escrowWhereSpec : ChangeSpec := { name := "escrowWhere", fn := fun _ => fun
  | [d1, d2, d3, d4] => { results := [.lit (.bool true)], args := [d1, d2, d3, d4] }
  | _ => none }
def escrowWhereRow : OpenClaim := { program := "ytjbbhccoamhbgaa", sum := "9909fc9ebff0a22cb5174fb3fb9973b9d60ff72498faff7c86833642f5f2baa5", func := "armistice/armisticelaw10.EscrowWhere", spec := "escrowWhere", unfollowed := true, recurses := true, apart := false }
def EscrowWhereSaid : Prop := escrowWhereRow.holds Try.pinned (OpenSpec.ofChange escrowWhereSpec)

/-- ITS FALSE NEIGHBOUR: 'it returns false'. Refute it at one input. -/
def escrowWhereWrong : ChangeSpec := { name := "escrowWhere", fn := fun _ => fun
  | [d1, d2, d3, d4] => { results := [.lit (.bool false)], args := [d1, d2, d3, d4] }
  | _ => none }
def EscrowWhereWrongFalsely : Prop := escrowWhereRow.holds Try.pinned (OpenSpec.ofChange escrowWhereWrong)

/-- 'armisticelaw10.EscrowSplit': WHATEVER THE INPUT: true; the input reads as it did. -/
def escrowSplitSpec : ChangeSpec := { name := "escrowSplit", fn := fun _ => fun
  | [d1, d2, d3] => { results := [.lit (.bool true)], args := [d1, d2, d3] }
  | _ => none }
def escrowSplitRow : OpenClaim := { program := "ytjbbhccoamhbgaa", sum := "9909fc9ebff0a22cb5174fb3fb9973b9d60ff72498faff7c86833642f5f2baa5", func := "armistice/armisticelaw10.EscrowSplit", spec := "escrowSplit", unfollowed := true, recurses := true, apart := false }
def EscrowSplitSaid : Prop := escrowSplitRow.holds Try.pinned (OpenSpec.ofChange escrowSplitSpec)

/-- ITS FALSE NEIGHBOUR: 'it returns false'. Refute it at one input. -/
def escrowSplitWrong : ChangeSpec := { name := "escrowSplit", fn := fun _ => fun
  | [d1, d2, d3] => { results := [.lit (.bool false)], args := [d1, d2, d3] }
  | _ => none }
def EscrowSplitWrongFalsely : Prop := escrowSplitRow.holds Try.pinned (OpenSpec.ofChange escrowSplitWrong)

/- THE SECOND FORM. 'bulk': how many values and letters a reading holds, each counted each time it is reached (what is shared counts as often as it is met; a slice's spare places count too). A statement '..UptoSaid' is the law's where the arguments, and the package variables that the reading takes, are together of bulk at most 1048576: NARROWER than '..Said'. Prove '..Said' where nothing that the law and all that it calls make is longer than what came in: it says more and counts as full. Else prove '..UptoSaid'. A law counts once. -/
mutual
def uptoBulk {H : Type} : DataW H → Nat
  | .lit (.string bytes) => bytes.length + 1
  | .lit _ => 1
  | .nil => 1
  | .ptr d => uptoBulk d + 1
  | .slice elems spare => uptoBulkAll elems + uptoBulkAll spare + 1
  | .agg parts => uptoBulkAll parts + 1
  | .iface _ d => uptoBulk d + 1
  | .map entries => uptoBulkEntries entries + 1
  | .held _ => 1
def uptoBulkAll {H : Type} : List (DataW H) → Nat
  | [] => 0
  | d :: r => uptoBulk d + uptoBulkAll r
def uptoBulkEntries {H : Type} : List (Lit × DataW H) → Nat
  | [] => 0
  | x :: r => uptoBulkEntry x + uptoBulkEntries r
def uptoBulkEntry {H : Type} : Lit × DataW H → Nat
  | (.string bytes, d) => bytes.length + uptoBulk d + 1
  | (_, d) => uptoBulk d + 1
 end
def uptoSmall : (H : Type) → List (DataW H) → Bool := fun _ ds => decide (uptoBulkAll ds ≤ 1048576)
def OpenSpec.upto (s : _root_.Go.ChangeSpec) : _root_.Go.OpenSpec := { _root_.Go.OpenSpec.ofChange s with cond := some uptoSmall }

/-- 'armisticelaw10.EscrowApplies', WHERE WHAT IT READS IS OF BULK AT MOST 1048576: true; the input reads as it did. -/
def escrowAppliesUptoRow : OpenClaim := { program := "ytjbbhccoamhbgaa", sum := "9909fc9ebff0a22cb5174fb3fb9973b9d60ff72498faff7c86833642f5f2baa5", func := "armistice/armisticelaw10.EscrowApplies", spec := "escrowApplies", unfollowed := true, recurses := true, apart := false, narrowed := true }
def EscrowAppliesUptoSaid : Prop := escrowAppliesUptoRow.holds Try.pinned (OpenSpec.upto escrowAppliesSpec)

/-- 'armisticelaw10.EscrowRanges', WHERE WHAT IT READS IS OF BULK AT MOST 1048576: true; the input reads as it did. -/
def escrowRangesUptoRow : OpenClaim := { program := "ytjbbhccoamhbgaa", sum := "9909fc9ebff0a22cb5174fb3fb9973b9d60ff72498faff7c86833642f5f2baa5", func := "armistice/armisticelaw10.EscrowRanges", spec := "escrowRanges", unfollowed := true, recurses := true, apart := false, narrowed := true }
def EscrowRangesUptoSaid : Prop := escrowRangesUptoRow.holds Try.pinned (OpenSpec.upto escrowRangesSpec)

/-- 'armisticelaw10.EscrowKnown', WHERE WHAT IT READS IS OF BULK AT MOST 1048576: true; the input reads as it did. -/
def escrowKnownUptoRow : OpenClaim := { program := "ytjbbhccoamhbgaa", sum := "9909fc9ebff0a22cb5174fb3fb9973b9d60ff72498faff7c86833642f5f2baa5", func := "armistice/armisticelaw10.EscrowKnown", spec := "escrowKnown", unfollowed := true, recurses := true, apart := false, narrowed := true }
def EscrowKnownUptoSaid : Prop := escrowKnownUptoRow.holds Try.pinned (OpenSpec.upto escrowKnownSpec)

/-- 'armisticelaw10.EscrowStays', WHERE WHAT IT READS IS OF BULK AT MOST 1048576: true; the input reads as it did. -/
def escrowStaysUptoRow : OpenClaim := { program := "ytjbbhccoamhbgaa", sum := "9909fc9ebff0a22cb5174fb3fb9973b9d60ff72498faff7c86833642f5f2baa5", func := "armistice/armisticelaw10.EscrowStays", spec := "escrowStays", unfollowed := true, recurses := true, apart := false, narrowed := true }
def EscrowStaysUptoSaid : Prop := escrowStaysUptoRow.holds Try.pinned (OpenSpec.upto escrowStaysSpec)

/-- 'armisticelaw10.EscrowWhere', WHERE WHAT IT READS IS OF BULK AT MOST 1048576: true; the input reads as it did. -/
def escrowWhereUptoRow : OpenClaim := { program := "ytjbbhccoamhbgaa", sum := "9909fc9ebff0a22cb5174fb3fb9973b9d60ff72498faff7c86833642f5f2baa5", func := "armistice/armisticelaw10.EscrowWhere", spec := "escrowWhere", unfollowed := true, recurses := true, apart := false, narrowed := true }
def EscrowWhereUptoSaid : Prop := escrowWhereUptoRow.holds Try.pinned (OpenSpec.upto escrowWhereSpec)

/-- 'armisticelaw10.EscrowSplit', WHERE WHAT IT READS IS OF BULK AT MOST 1048576: true; the input reads as it did. -/
def escrowSplitUptoRow : OpenClaim := { program := "ytjbbhccoamhbgaa", sum := "9909fc9ebff0a22cb5174fb3fb9973b9d60ff72498faff7c86833642f5f2baa5", func := "armistice/armisticelaw10.EscrowSplit", spec := "escrowSplit", unfollowed := true, recurses := true, apart := false, narrowed := true }
def EscrowSplitUptoSaid : Prop := escrowSplitUptoRow.holds Try.pinned (OpenSpec.upto escrowSplitSpec)

end Rows
end Go.Proofs.Ytjbbhccoamhbgaa
