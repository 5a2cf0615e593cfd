/-
  No cell of these rows narrows 'for every input' (looked for: loops, veiled, ifaces, maps, wideKeys, modest, calm, conditions, laid).
  DERIVED. THE GIVEN ROWS OF THIS SEAT. 5 by the template 'for every input the law returns true; each argument reads behind the call as it read before'; 0 by the template 'total and deterministic' (their statements: YtieebjdlmhggpaaTotals.lean).
  GIVEN WITH THE SEED: the statements are not yours to turn. If you find one false, say at which input.
  Laid BY PROGRAM, IN A SANDBOX (cutbox-rows.mjs): the forced cells as the released guide's own fill.sh prints them over the translation 960d62ec00aa01fe… (all of the seat's roots in one cut). By AI agents, Wed Nov 11 2026. No macro, syntax, notation, axiom, sorry.
-/
import Derived.Test.YtieebjdlmhggpaaChecked
import GoSem.Claim
import GoSem.ClaimJoined
import GoSem.ClaimMapViews
import Derived.JoinedTies
import Derived.KernelRfl
namespace Go.Proofs.Ytieebjdlmhggpaa
/- THE CELL 'sum', in the pinned program and in every row, IS THE sha256 OF THE DUMP (.gsa) THAT YtieebjdlmhggpaaProg.lean LOADS. Nothing in Lean hashes anything: it is a label: what it is worth is what the hold of that sum in a sandbox is worth. -/
noncomputable def Try.pinned : Pinned := { name := "ytieebjdlmhggpaa", sum := "960d62ec00aa01fe868d57cece40c9025c221651d2ab2c5545a7b47da438029a", checked := Try.checked }
namespace Rows
def none {H : Type} : Left H := { results := [], args := [] }

/-- 'armisticelaw09.FifoApplies': WHATEVER THE INPUT: true; the input reads as it did. -/
def fifoAppliesSpec : ChangeSpec := { name := "fifoApplies", fn := fun _ => fun
  | [d1, d2, d3, d4] => { results := [.lit (.bool true)], args := [d1, d2, d3, d4] }
  | _ => none }
def fifoAppliesRow : OpenClaim := { program := "ytieebjdlmhggpaa", sum := "960d62ec00aa01fe868d57cece40c9025c221651d2ab2c5545a7b47da438029a", func := "armistice/armisticelaw09.FifoApplies", spec := "fifoApplies", unfollowed := true, recurses := true, apart := false }
def FifoAppliesSaid : Prop := fifoAppliesRow.holds Try.pinned (OpenSpec.ofChange fifoAppliesSpec)

/-- ITS FALSE NEIGHBOUR: 'it returns false'. Refute it at one input. -/
def fifoAppliesWrong : ChangeSpec := { name := "fifoApplies", fn := fun _ => fun
  | [d1, d2, d3, d4] => { results := [.lit (.bool false)], args := [d1, d2, d3, d4] }
  | _ => none }
def FifoAppliesWrongFalsely : Prop := fifoAppliesRow.holds Try.pinned (OpenSpec.ofChange fifoAppliesWrong)

/-- 'armisticelaw09.FifoLists': WHATEVER THE INPUT: true; the input reads as it did. -/
def fifoListsSpec : ChangeSpec := { name := "fifoLists", fn := fun _ => fun
  | [d1, d2] => { results := [.lit (.bool true)], args := [d1, d2] }
  | _ => none }
def fifoListsRow : OpenClaim := { program := "ytieebjdlmhggpaa", sum := "960d62ec00aa01fe868d57cece40c9025c221651d2ab2c5545a7b47da438029a", func := "armistice/armisticelaw09.FifoLists", spec := "fifoLists", unfollowed := true, recurses := true, apart := false }
def FifoListsSaid : Prop := fifoListsRow.holds Try.pinned (OpenSpec.ofChange fifoListsSpec)

/-- ITS FALSE NEIGHBOUR: 'it returns false'. Refute it at one input. -/
def fifoListsWrong : ChangeSpec := { name := "fifoLists", fn := fun _ => fun
  | [d1, d2] => { results := [.lit (.bool false)], args := [d1, d2] }
  | _ => none }
def FifoListsWrongFalsely : Prop := fifoListsRow.holds Try.pinned (OpenSpec.ofChange fifoListsWrong)

/-- 'armisticelaw09.FifoKnown': WHATEVER THE INPUT: true; the input reads as it did. -/
def fifoKnownSpec : ChangeSpec := { name := "fifoKnown", fn := fun _ => fun
  | [] => { results := [.lit (.bool true)], args := [] }
  | _ => none }
def fifoKnownRow : OpenClaim := { program := "ytieebjdlmhggpaa", sum := "960d62ec00aa01fe868d57cece40c9025c221651d2ab2c5545a7b47da438029a", func := "armistice/armisticelaw09.FifoKnown", spec := "fifoKnown", unfollowed := true, recurses := true, apart := false }
def FifoKnownSaid : Prop := fifoKnownRow.holds Try.pinned (OpenSpec.ofChange fifoKnownSpec)

/-- ITS FALSE NEIGHBOUR: 'it returns false'. Refute it at one input. -/
def fifoKnownWrong : ChangeSpec := { name := "fifoKnown", fn := fun _ => fun
  | [] => { results := [.lit (.bool false)], args := [] }
  | _ => none }
def FifoKnownWrongFalsely : Prop := fifoKnownRow.holds Try.pinned (OpenSpec.ofChange fifoKnownWrong)

/-- 'armisticelaw09.FifoOrder': WHATEVER THE INPUT: true; the input reads as it did. -/
def fifoOrderSpec : ChangeSpec := { name := "fifoOrder", fn := fun _ => fun
  | [d1, d2] => { results := [.lit (.bool true)], args := [d1, d2] }
  | _ => none }
def fifoOrderRow : OpenClaim := { program := "ytieebjdlmhggpaa", sum := "960d62ec00aa01fe868d57cece40c9025c221651d2ab2c5545a7b47da438029a", func := "armistice/armisticelaw09.FifoOrder", spec := "fifoOrder", unfollowed := true, recurses := true, apart := false }
def FifoOrderSaid : Prop := fifoOrderRow.holds Try.pinned (OpenSpec.ofChange fifoOrderSpec)

/-- ITS FALSE NEIGHBOUR: 'it returns false'. Refute it at one input. -/
def fifoOrderWrong : ChangeSpec := { name := "fifoOrder", fn := fun _ => fun
  | [d1, d2] => { results := [.lit (.bool false)], args := [d1, d2] }
  | _ => none }
def FifoOrderWrongFalsely : Prop := fifoOrderRow.holds Try.pinned (OpenSpec.ofChange fifoOrderWrong)

/-- 'armisticelaw09.FifoStarts': WHATEVER THE INPUT: true; the input reads as it did. -/
def fifoStartsSpec : ChangeSpec := { name := "fifoStarts", fn := fun _ => fun
  | [d1, d2, d3] => { results := [.lit (.bool true)], args := [d1, d2, d3] }
  | _ => none }
def fifoStartsRow : OpenClaim := { program := "ytieebjdlmhggpaa", sum := "960d62ec00aa01fe868d57cece40c9025c221651d2ab2c5545a7b47da438029a", func := "armistice/armisticelaw09.FifoStarts", spec := "fifoStarts", unfollowed := true, recurses := true, apart := false }
def FifoStartsSaid : Prop := fifoStartsRow.holds Try.pinned (OpenSpec.ofChange fifoStartsSpec)

/-- ITS FALSE NEIGHBOUR: 'it returns false'. Refute it at one input. -/
def fifoStartsWrong : ChangeSpec := { name := "fifoStarts", fn := fun _ => fun
  | [d1, d2, d3] => { results := [.lit (.bool false)], args := [d1, d2, d3] }
  | _ => none }
def FifoStartsWrongFalsely : Prop := fifoStartsRow.holds Try.pinned (OpenSpec.ofChange fifoStartsWrong)

/- THE SECOND FORM. 'bulk': how many values and letters a reading holds, each counted each time it is reached (what is shared counts as often as it is met; a slice's spare places count too). A statement '..UptoSaid' is the law's where the arguments, and the package variables that the reading takes, are together of bulk at most 1048576: NARROWER than '..Said'. Prove '..Said' where nothing that the law and all that it calls make is longer than what came in: it says more and counts as full. Else prove '..UptoSaid'. A law counts once. -/
mutual
def uptoBulk {H : Type} : DataW H → Nat
  | .lit (.string bytes) => bytes.length + 1
  | .lit _ => 1
  | .nil => 1
  | .ptr d => uptoBulk d + 1
  | .slice elems spare => uptoBulkAll elems + uptoBulkAll spare + 1
  | .agg parts => uptoBulkAll parts + 1
  | .iface _ d => uptoBulk d + 1
  | .map entries => uptoBulkEntries entries + 1
  | .held _ => 1
def uptoBulkAll {H : Type} : List (DataW H) → Nat
  | [] => 0
  | d :: r => uptoBulk d + uptoBulkAll r
def uptoBulkEntries {H : Type} : List (Lit × DataW H) → Nat
  | [] => 0
  | x :: r => uptoBulkEntry x + uptoBulkEntries r
def uptoBulkEntry {H : Type} : Lit × DataW H → Nat
  | (.string bytes, d) => bytes.length + uptoBulk d + 1
  | (_, d) => uptoBulk d + 1
 end
def uptoSmall : (H : Type) → List (DataW H) → Bool := fun _ ds => decide (uptoBulkAll ds ≤ 1048576)
def OpenSpec.upto (s : _root_.Go.ChangeSpec) : _root_.Go.OpenSpec := { _root_.Go.OpenSpec.ofChange s with cond := some uptoSmall }

/-- 'armisticelaw09.FifoApplies', WHERE WHAT IT READS IS OF BULK AT MOST 1048576: true; the input reads as it did. -/
def fifoAppliesUptoRow : OpenClaim := { program := "ytieebjdlmhggpaa", sum := "960d62ec00aa01fe868d57cece40c9025c221651d2ab2c5545a7b47da438029a", func := "armistice/armisticelaw09.FifoApplies", spec := "fifoApplies", unfollowed := true, recurses := true, apart := false, narrowed := true }
def FifoAppliesUptoSaid : Prop := fifoAppliesUptoRow.holds Try.pinned (OpenSpec.upto fifoAppliesSpec)

/-- 'armisticelaw09.FifoLists', WHERE WHAT IT READS IS OF BULK AT MOST 1048576: true; the input reads as it did. -/
def fifoListsUptoRow : OpenClaim := { program := "ytieebjdlmhggpaa", sum := "960d62ec00aa01fe868d57cece40c9025c221651d2ab2c5545a7b47da438029a", func := "armistice/armisticelaw09.FifoLists", spec := "fifoLists", unfollowed := true, recurses := true, apart := false, narrowed := true }
def FifoListsUptoSaid : Prop := fifoListsUptoRow.holds Try.pinned (OpenSpec.upto fifoListsSpec)

/-- 'armisticelaw09.FifoKnown', WHERE WHAT IT READS IS OF BULK AT MOST 1048576: true; the input reads as it did. -/
def fifoKnownUptoRow : OpenClaim := { program := "ytieebjdlmhggpaa", sum := "960d62ec00aa01fe868d57cece40c9025c221651d2ab2c5545a7b47da438029a", func := "armistice/armisticelaw09.FifoKnown", spec := "fifoKnown", unfollowed := true, recurses := true, apart := false, narrowed := true }
def FifoKnownUptoSaid : Prop := fifoKnownUptoRow.holds Try.pinned (OpenSpec.upto fifoKnownSpec)

/-- 'armisticelaw09.FifoOrder', WHERE WHAT IT READS IS OF BULK AT MOST 1048576: true; the input reads as it did. -/
def fifoOrderUptoRow : OpenClaim := { program := "ytieebjdlmhggpaa", sum := "960d62ec00aa01fe868d57cece40c9025c221651d2ab2c5545a7b47da438029a", func := "armistice/armisticelaw09.FifoOrder", spec := "fifoOrder", unfollowed := true, recurses := true, apart := false, narrowed := true }
def FifoOrderUptoSaid : Prop := fifoOrderUptoRow.holds Try.pinned (OpenSpec.upto fifoOrderSpec)

/-- 'armisticelaw09.FifoStarts', WHERE WHAT IT READS IS OF BULK AT MOST 1048576: true; the input reads as it did. -/
def fifoStartsUptoRow : OpenClaim := { program := "ytieebjdlmhggpaa", sum := "960d62ec00aa01fe868d57cece40c9025c221651d2ab2c5545a7b47da438029a", func := "armistice/armisticelaw09.FifoStarts", spec := "fifoStarts", unfollowed := true, recurses := true, apart := false, narrowed := true }
def FifoStartsUptoSaid : Prop := fifoStartsUptoRow.holds Try.pinned (OpenSpec.upto fifoStartsSpec)

end Rows
end Go.Proofs.Ytieebjdlmhggpaa
