/-
  No cell of these rows narrows 'for every input' (looked for: loops, veiled, ifaces, maps, wideKeys, modest, calm, conditions, laid).
  DERIVED. THE GIVEN ROWS OF THIS SEAT. 5 by the template 'for every input the law returns true; each argument reads behind the call as it read before'; 0 by the template 'total and deterministic' (their statements: YtcomfanipljolaaTotals.lean).
  GIVEN WITH THE SEED: the statements are not yours to turn. If you find one false, say at which input.
  Laid BY PROGRAM, IN A SANDBOX (cutbox-rows.mjs): the forced cells as the released guide's own fill.sh prints them over the translation a6eb7eb475ff1ad1… (all of the seat's roots in one cut). By AI agents, Wed Nov 11 2026. No macro, syntax, notation, axiom, sorry.
-/
import Derived.Test.YtcomfanipljolaaChecked
import GoSem.Claim
import GoSem.ClaimJoined
import GoSem.ClaimMapViews
import Derived.JoinedTies
import Derived.KernelRfl
namespace Go.Proofs.Ytcomfanipljolaa
/- THE CELL 'sum', in the pinned program and in every row, IS THE sha256 OF THE DUMP (.gsa) THAT YtcomfanipljolaaProg.lean LOADS. Nothing in Lean hashes anything: it is a label: what it is worth is what the hold of that sum in a sandbox is worth. -/
noncomputable def Try.pinned : Pinned := { name := "ytcomfanipljolaa", sum := "a6eb7eb475ff1ad17954469ef20b1b92d6c254f511043550be3acfe55673cf95", checked := Try.checked }
namespace Rows
def none {H : Type} : Left H := { results := [], args := [] }

/-- 'armisticelaw11.MachineApplies': WHATEVER THE INPUT: true; the input reads as it did. -/
def machineAppliesSpec : ChangeSpec := { name := "machineApplies", fn := fun _ => fun
  | [d1, d2] => { results := [.lit (.bool true)], args := [d1, d2] }
  | _ => none }
def machineAppliesRow : OpenClaim := { program := "ytcomfanipljolaa", sum := "a6eb7eb475ff1ad17954469ef20b1b92d6c254f511043550be3acfe55673cf95", func := "armistice/armisticelaw11.MachineApplies", spec := "machineApplies", inPlace := ["slices.overlaps[int]"], unfollowed := true, recurses := true, apart := false }
def MachineAppliesSaid : Prop := machineAppliesRow.holds Try.pinned (OpenSpec.ofChange machineAppliesSpec)

/-- ITS FALSE NEIGHBOUR: 'it returns false'. Refute it at one input. -/
def machineAppliesWrong : ChangeSpec := { name := "machineApplies", fn := fun _ => fun
  | [d1, d2] => { results := [.lit (.bool false)], args := [d1, d2] }
  | _ => none }
def MachineAppliesWrongFalsely : Prop := machineAppliesRow.holds Try.pinned (OpenSpec.ofChange machineAppliesWrong)

/-- 'armisticelaw11.MachineRuns': WHATEVER THE INPUT: true; the input reads as it did. -/
def machineRunsSpec : ChangeSpec := { name := "machineRuns", fn := fun _ => fun
  | [d1, d2] => { results := [.lit (.bool true)], args := [d1, d2] }
  | _ => none }
def machineRunsRow : OpenClaim := { program := "ytcomfanipljolaa", sum := "a6eb7eb475ff1ad17954469ef20b1b92d6c254f511043550be3acfe55673cf95", func := "armistice/armisticelaw11.MachineRuns", spec := "machineRuns", inPlace := ["slices.overlaps[int]"], unfollowed := true, recurses := true, apart := false }
def MachineRunsSaid : Prop := machineRunsRow.holds Try.pinned (OpenSpec.ofChange machineRunsSpec)

/-- ITS FALSE NEIGHBOUR: 'it returns false'. Refute it at one input. -/
def machineRunsWrong : ChangeSpec := { name := "machineRuns", fn := fun _ => fun
  | [d1, d2] => { results := [.lit (.bool false)], args := [d1, d2] }
  | _ => none }
def MachineRunsWrongFalsely : Prop := machineRunsRow.holds Try.pinned (OpenSpec.ofChange machineRunsWrong)

/-- 'armisticelaw11.MachineKnown': WHATEVER THE INPUT: true; the input reads as it did. -/
def machineKnownSpec : ChangeSpec := { name := "machineKnown", fn := fun _ => fun
  | [] => { results := [.lit (.bool true)], args := [] }
  | _ => none }
def machineKnownRow : OpenClaim := { program := "ytcomfanipljolaa", sum := "a6eb7eb475ff1ad17954469ef20b1b92d6c254f511043550be3acfe55673cf95", func := "armistice/armisticelaw11.MachineKnown", spec := "machineKnown", inPlace := ["slices.overlaps[int]"], unfollowed := true, recurses := true, apart := false }
def MachineKnownSaid : Prop := machineKnownRow.holds Try.pinned (OpenSpec.ofChange machineKnownSpec)

/-- ITS FALSE NEIGHBOUR: 'it returns false'. Refute it at one input. -/
def machineKnownWrong : ChangeSpec := { name := "machineKnown", fn := fun _ => fun
  | [] => { results := [.lit (.bool false)], args := [] }
  | _ => none }
def MachineKnownWrongFalsely : Prop := machineKnownRow.holds Try.pinned (OpenSpec.ofChange machineKnownWrong)

/-- 'armisticelaw11.MachineTotal': WHATEVER THE INPUT: true; the input reads as it did. -/
def machineTotalSpec : ChangeSpec := { name := "machineTotal", fn := fun _ => fun
  | [d1, d2, d3, d4, d5] => { results := [.lit (.bool true)], args := [d1, d2, d3, d4, d5] }
  | _ => none }
def machineTotalRow : OpenClaim := { program := "ytcomfanipljolaa", sum := "a6eb7eb475ff1ad17954469ef20b1b92d6c254f511043550be3acfe55673cf95", func := "armistice/armisticelaw11.MachineTotal", spec := "machineTotal", inPlace := ["slices.overlaps[int]"], unfollowed := true, recurses := true, apart := false }
def MachineTotalSaid : Prop := machineTotalRow.holds Try.pinned (OpenSpec.ofChange machineTotalSpec)

/-- ITS FALSE NEIGHBOUR: 'it returns false'. Refute it at one input. -/
def machineTotalWrong : ChangeSpec := { name := "machineTotal", fn := fun _ => fun
  | [d1, d2, d3, d4, d5] => { results := [.lit (.bool false)], args := [d1, d2, d3, d4, d5] }
  | _ => none }
def MachineTotalWrongFalsely : Prop := machineTotalRow.holds Try.pinned (OpenSpec.ofChange machineTotalWrong)

/-- 'armisticelaw11.MachineTwo': WHATEVER THE INPUT: true; the input reads as it did. -/
def machineTwoSpec : ChangeSpec := { name := "machineTwo", fn := fun _ => fun
  | [d1, d2, d3] => { results := [.lit (.bool true)], args := [d1, d2, d3] }
  | _ => none }
def machineTwoRow : OpenClaim := { program := "ytcomfanipljolaa", sum := "a6eb7eb475ff1ad17954469ef20b1b92d6c254f511043550be3acfe55673cf95", func := "armistice/armisticelaw11.MachineTwo", spec := "machineTwo", inPlace := ["slices.overlaps[int]"], unfollowed := true, recurses := true, apart := false }
def MachineTwoSaid : Prop := machineTwoRow.holds Try.pinned (OpenSpec.ofChange machineTwoSpec)

/-- ITS FALSE NEIGHBOUR: 'it returns false'. Refute it at one input. -/
def machineTwoWrong : ChangeSpec := { name := "machineTwo", fn := fun _ => fun
  | [d1, d2, d3] => { results := [.lit (.bool false)], args := [d1, d2, d3] }
  | _ => none }
def MachineTwoWrongFalsely : Prop := machineTwoRow.holds Try.pinned (OpenSpec.ofChange machineTwoWrong)

/- THE SECOND FORM. 'bulk': how many values and letters a reading holds, each counted each time it is reached (what is shared counts as often as it is met; a slice's spare places count too). A statement '..UptoSaid' is the law's where the arguments, and the package variables that the reading takes, are together of bulk at most 1048576: NARROWER than '..Said'. Prove '..Said' where nothing that the law and all that it calls make is longer than what came in: it says more and counts as full. Else prove '..UptoSaid'. A law counts once. -/
mutual
def uptoBulk {H : Type} : DataW H → Nat
  | .lit (.string bytes) => bytes.length + 1
  | .lit _ => 1
  | .nil => 1
  | .ptr d => uptoBulk d + 1
  | .slice elems spare => uptoBulkAll elems + uptoBulkAll spare + 1
  | .agg parts => uptoBulkAll parts + 1
  | .iface _ d => uptoBulk d + 1
  | .map entries => uptoBulkEntries entries + 1
  | .held _ => 1
def uptoBulkAll {H : Type} : List (DataW H) → Nat
  | [] => 0
  | d :: r => uptoBulk d + uptoBulkAll r
def uptoBulkEntries {H : Type} : List (Lit × DataW H) → Nat
  | [] => 0
  | x :: r => uptoBulkEntry x + uptoBulkEntries r
def uptoBulkEntry {H : Type} : Lit × DataW H → Nat
  | (.string bytes, d) => bytes.length + uptoBulk d + 1
  | (_, d) => uptoBulk d + 1
 end
def uptoSmall : (H : Type) → List (DataW H) → Bool := fun _ ds => decide (uptoBulkAll ds ≤ 1048576)
def OpenSpec.upto (s : _root_.Go.ChangeSpec) : _root_.Go.OpenSpec := { _root_.Go.OpenSpec.ofChange s with cond := some uptoSmall }

/-- 'armisticelaw11.MachineApplies', WHERE WHAT IT READS IS OF BULK AT MOST 1048576: true; the input reads as it did. -/
def machineAppliesUptoRow : OpenClaim := { program := "ytcomfanipljolaa", sum := "a6eb7eb475ff1ad17954469ef20b1b92d6c254f511043550be3acfe55673cf95", func := "armistice/armisticelaw11.MachineApplies", spec := "machineApplies", inPlace := ["slices.overlaps[int]"], unfollowed := true, recurses := true, apart := false, narrowed := true }
def MachineAppliesUptoSaid : Prop := machineAppliesUptoRow.holds Try.pinned (OpenSpec.upto machineAppliesSpec)

/-- 'armisticelaw11.MachineRuns', WHERE WHAT IT READS IS OF BULK AT MOST 1048576: true; the input reads as it did. -/
def machineRunsUptoRow : OpenClaim := { program := "ytcomfanipljolaa", sum := "a6eb7eb475ff1ad17954469ef20b1b92d6c254f511043550be3acfe55673cf95", func := "armistice/armisticelaw11.MachineRuns", spec := "machineRuns", inPlace := ["slices.overlaps[int]"], unfollowed := true, recurses := true, apart := false, narrowed := true }
def MachineRunsUptoSaid : Prop := machineRunsUptoRow.holds Try.pinned (OpenSpec.upto machineRunsSpec)

/-- 'armisticelaw11.MachineKnown', WHERE WHAT IT READS IS OF BULK AT MOST 1048576: true; the input reads as it did. -/
def machineKnownUptoRow : OpenClaim := { program := "ytcomfanipljolaa", sum := "a6eb7eb475ff1ad17954469ef20b1b92d6c254f511043550be3acfe55673cf95", func := "armistice/armisticelaw11.MachineKnown", spec := "machineKnown", inPlace := ["slices.overlaps[int]"], unfollowed := true, recurses := true, apart := false, narrowed := true }
def MachineKnownUptoSaid : Prop := machineKnownUptoRow.holds Try.pinned (OpenSpec.upto machineKnownSpec)

/-- 'armisticelaw11.MachineTotal', WHERE WHAT IT READS IS OF BULK AT MOST 1048576: true; the input reads as it did. -/
def machineTotalUptoRow : OpenClaim := { program := "ytcomfanipljolaa", sum := "a6eb7eb475ff1ad17954469ef20b1b92d6c254f511043550be3acfe55673cf95", func := "armistice/armisticelaw11.MachineTotal", spec := "machineTotal", inPlace := ["slices.overlaps[int]"], unfollowed := true, recurses := true, apart := false, narrowed := true }
def MachineTotalUptoSaid : Prop := machineTotalUptoRow.holds Try.pinned (OpenSpec.upto machineTotalSpec)

/-- 'armisticelaw11.MachineTwo', WHERE WHAT IT READS IS OF BULK AT MOST 1048576: true; the input reads as it did. -/
def machineTwoUptoRow : OpenClaim := { program := "ytcomfanipljolaa", sum := "a6eb7eb475ff1ad17954469ef20b1b92d6c254f511043550be3acfe55673cf95", func := "armistice/armisticelaw11.MachineTwo", spec := "machineTwo", inPlace := ["slices.overlaps[int]"], unfollowed := true, recurses := true, apart := false, narrowed := true }
def MachineTwoUptoSaid : Prop := machineTwoUptoRow.holds Try.pinned (OpenSpec.upto machineTwoSpec)

end Rows
end Go.Proofs.Ytcomfanipljolaa
