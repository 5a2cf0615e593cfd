/-
  No cell of these rows narrows 'for every input' (looked for: loops, veiled, ifaces, maps, wideKeys, modest, calm, conditions, laid).
  DERIVED. THE GIVEN ROWS OF THIS SEAT. 4 by the template 'for every input the law returns true; each argument reads behind the call as it read before'; 0 by the template 'total and deterministic' (their statements: YtknijbcmhjgllaaGreatTotals.lean).
  GIVEN WITH THE SEED: the statements are not yours to turn. If you find one false, say at which input.
  Laid BY PROGRAM, IN A SANDBOX (cutbox-rows.mjs): the forced cells as the released guide's own fill.sh prints them over the translation 701306fdda48e93b… (all of the seat's roots in one cut). By AI agents, Wed Nov 11 2026. No macro, syntax, notation, axiom, sorry.
-/
import Derived.Test.YtknijbcmhjgllaaGreatChecked
import GoSem.Claim
import GoSem.ClaimJoined
import GoSem.ClaimMapViews
import Derived.JoinedTies
import Derived.KernelRfl
namespace Go.Proofs.YtknijbcmhjgllaaGreat
/- THE CELL 'sum', in the pinned program and in every row, IS THE sha256 OF THE DUMP (.gsa) THAT YtknijbcmhjgllaaGreatProg.lean LOADS. Nothing in Lean hashes anything: it is a label: what it is worth is what the hold of that sum in a sandbox is worth. -/
noncomputable def Tryz.pinned : Pinned := { name := "ytknijbcmhjgllaagreat", sum := "701306fdda48e93bcda07152fcd56f621dea3150bcb0af3dfc446cdd069bad47", checked := Tryz.checked }
namespace Rows
def none {H : Type} : Left H := { results := [], args := [] }

/-- 'armisticelaw19.WitnessKnown': WHATEVER THE INPUT: true; the input reads as it did. -/
def witnessKnownSpec : ChangeSpec := { name := "witnessKnown", fn := fun _ => fun
  | [] => { results := [.lit (.bool true)], args := [] }
  | _ => none }
def witnessKnownRow : OpenClaim := { program := "ytknijbcmhjgllaagreat", sum := "701306fdda48e93bcda07152fcd56f621dea3150bcb0af3dfc446cdd069bad47", func := "armistice/armisticelaw19.WitnessKnown", spec := "witnessKnown", inPlace := ["slices.overlaps[int]", "math/bits.Add64", "internal/abi.NoEscape", "internal/bytealg.MakeNoZero"], unfollowed := true, recurses := true, apart := false }
def WitnessKnownSaid : Prop := witnessKnownRow.holds Tryz.pinned (OpenSpec.ofChange witnessKnownSpec)

/-- ITS FALSE NEIGHBOUR: 'it returns false'. Refute it at one input. -/
def witnessKnownWrong : ChangeSpec := { name := "witnessKnown", fn := fun _ => fun
  | [] => { results := [.lit (.bool false)], args := [] }
  | _ => none }
def WitnessKnownWrongFalsely : Prop := witnessKnownRow.holds Tryz.pinned (OpenSpec.ofChange witnessKnownWrong)

/-- 'armisticelaw19.WitnessReal': WHATEVER THE INPUT: true; the input reads as it did. -/
def witnessRealSpec : ChangeSpec := { name := "witnessReal", fn := fun _ => fun
  | [d1, d2] => { results := [.lit (.bool true)], args := [d1, d2] }
  | _ => none }
def witnessRealRow : OpenClaim := { program := "ytknijbcmhjgllaagreat", sum := "701306fdda48e93bcda07152fcd56f621dea3150bcb0af3dfc446cdd069bad47", func := "armistice/armisticelaw19.WitnessReal", spec := "witnessReal", inPlace := ["slices.overlaps[int]", "math/bits.Add64", "internal/abi.NoEscape", "internal/bytealg.MakeNoZero"], unfollowed := true, recurses := true, apart := false }
def WitnessRealSaid : Prop := witnessRealRow.holds Tryz.pinned (OpenSpec.ofChange witnessRealSpec)

/-- ITS FALSE NEIGHBOUR: 'it returns false'. Refute it at one input. -/
def witnessRealWrong : ChangeSpec := { name := "witnessReal", fn := fun _ => fun
  | [d1, d2] => { results := [.lit (.bool false)], args := [d1, d2] }
  | _ => none }
def WitnessRealWrongFalsely : Prop := witnessRealRow.holds Tryz.pinned (OpenSpec.ofChange witnessRealWrong)

/-- 'armisticelaw19.WitnessNone': WHATEVER THE INPUT: true; the input reads as it did. -/
def witnessNoneSpec : ChangeSpec := { name := "witnessNone", fn := fun _ => fun
  | [d1, d2, d3] => { results := [.lit (.bool true)], args := [d1, d2, d3] }
  | _ => none }
def witnessNoneRow : OpenClaim := { program := "ytknijbcmhjgllaagreat", sum := "701306fdda48e93bcda07152fcd56f621dea3150bcb0af3dfc446cdd069bad47", func := "armistice/armisticelaw19.WitnessNone", spec := "witnessNone", inPlace := ["slices.overlaps[int]", "math/bits.Add64", "internal/abi.NoEscape", "internal/bytealg.MakeNoZero"], unfollowed := true, recurses := true, apart := false }
def WitnessNoneSaid : Prop := witnessNoneRow.holds Tryz.pinned (OpenSpec.ofChange witnessNoneSpec)

/-- ITS FALSE NEIGHBOUR: 'it returns false'. Refute it at one input. -/
def witnessNoneWrong : ChangeSpec := { name := "witnessNone", fn := fun _ => fun
  | [d1, d2, d3] => { results := [.lit (.bool false)], args := [d1, d2, d3] }
  | _ => none }
def WitnessNoneWrongFalsely : Prop := witnessNoneRow.holds Tryz.pinned (OpenSpec.ofChange witnessNoneWrong)

/-- 'armisticelaw19.WitnessTells': WHATEVER THE INPUT: true; the input reads as it did. -/
def witnessTellsSpec : ChangeSpec := { name := "witnessTells", fn := fun _ => fun
  | [d1, d2, d3] => { results := [.lit (.bool true)], args := [d1, d2, d3] }
  | _ => none }
def witnessTellsRow : OpenClaim := { program := "ytknijbcmhjgllaagreat", sum := "701306fdda48e93bcda07152fcd56f621dea3150bcb0af3dfc446cdd069bad47", func := "armistice/armisticelaw19.WitnessTells", spec := "witnessTells", inPlace := ["slices.overlaps[int]", "math/bits.Add64", "internal/abi.NoEscape", "internal/bytealg.MakeNoZero"], unfollowed := true, recurses := true, apart := false }
def WitnessTellsSaid : Prop := witnessTellsRow.holds Tryz.pinned (OpenSpec.ofChange witnessTellsSpec)

/-- ITS FALSE NEIGHBOUR: 'it returns false'. Refute it at one input. -/
def witnessTellsWrong : ChangeSpec := { name := "witnessTells", fn := fun _ => fun
  | [d1, d2, d3] => { results := [.lit (.bool false)], args := [d1, d2, d3] }
  | _ => none }
def WitnessTellsWrongFalsely : Prop := witnessTellsRow.holds Tryz.pinned (OpenSpec.ofChange witnessTellsWrong)

/- THE SECOND FORM. 'bulk': how many values and letters a reading holds, each counted each time it is reached (what is shared counts as often as it is met; a slice's spare places count too). A statement '..UptoSaid' is the law's where the arguments, and the package variables that the reading takes, are together of bulk at most 1048576: NARROWER than '..Said'. Prove '..Said' where nothing that the law and all that it calls make is longer than what came in: it says more and counts as full. Else prove '..UptoSaid'. A law counts once. -/
mutual
def uptoBulk {H : Type} : DataW H → Nat
  | .lit (.string bytes) => bytes.length + 1
  | .lit _ => 1
  | .nil => 1
  | .ptr d => uptoBulk d + 1
  | .slice elems spare => uptoBulkAll elems + uptoBulkAll spare + 1
  | .agg parts => uptoBulkAll parts + 1
  | .iface _ d => uptoBulk d + 1
  | .map entries => uptoBulkEntries entries + 1
  | .held _ => 1
def uptoBulkAll {H : Type} : List (DataW H) → Nat
  | [] => 0
  | d :: r => uptoBulk d + uptoBulkAll r
def uptoBulkEntries {H : Type} : List (Lit × DataW H) → Nat
  | [] => 0
  | x :: r => uptoBulkEntry x + uptoBulkEntries r
def uptoBulkEntry {H : Type} : Lit × DataW H → Nat
  | (.string bytes, d) => bytes.length + uptoBulk d + 1
  | (_, d) => uptoBulk d + 1
 end
def uptoSmall : (H : Type) → List (DataW H) → Bool := fun _ ds => decide (uptoBulkAll ds ≤ 1048576)
def OpenSpec.upto (s : _root_.Go.ChangeSpec) : _root_.Go.OpenSpec := { _root_.Go.OpenSpec.ofChange s with cond := some uptoSmall }

/-- 'armisticelaw19.WitnessKnown', WHERE WHAT IT READS IS OF BULK AT MOST 1048576: true; the input reads as it did. -/
def witnessKnownUptoRow : OpenClaim := { program := "ytknijbcmhjgllaagreat", sum := "701306fdda48e93bcda07152fcd56f621dea3150bcb0af3dfc446cdd069bad47", func := "armistice/armisticelaw19.WitnessKnown", spec := "witnessKnown", inPlace := ["slices.overlaps[int]", "math/bits.Add64", "internal/abi.NoEscape", "internal/bytealg.MakeNoZero"], unfollowed := true, recurses := true, apart := false, narrowed := true }
def WitnessKnownUptoSaid : Prop := witnessKnownUptoRow.holds Tryz.pinned (OpenSpec.upto witnessKnownSpec)

/-- 'armisticelaw19.WitnessReal', WHERE WHAT IT READS IS OF BULK AT MOST 1048576: true; the input reads as it did. -/
def witnessRealUptoRow : OpenClaim := { program := "ytknijbcmhjgllaagreat", sum := "701306fdda48e93bcda07152fcd56f621dea3150bcb0af3dfc446cdd069bad47", func := "armistice/armisticelaw19.WitnessReal", spec := "witnessReal", inPlace := ["slices.overlaps[int]", "math/bits.Add64", "internal/abi.NoEscape", "internal/bytealg.MakeNoZero"], unfollowed := true, recurses := true, apart := false, narrowed := true }
def WitnessRealUptoSaid : Prop := witnessRealUptoRow.holds Tryz.pinned (OpenSpec.upto witnessRealSpec)

/-- 'armisticelaw19.WitnessNone', WHERE WHAT IT READS IS OF BULK AT MOST 1048576: true; the input reads as it did. -/
def witnessNoneUptoRow : OpenClaim := { program := "ytknijbcmhjgllaagreat", sum := "701306fdda48e93bcda07152fcd56f621dea3150bcb0af3dfc446cdd069bad47", func := "armistice/armisticelaw19.WitnessNone", spec := "witnessNone", inPlace := ["slices.overlaps[int]", "math/bits.Add64", "internal/abi.NoEscape", "internal/bytealg.MakeNoZero"], unfollowed := true, recurses := true, apart := false, narrowed := true }
def WitnessNoneUptoSaid : Prop := witnessNoneUptoRow.holds Tryz.pinned (OpenSpec.upto witnessNoneSpec)

/-- 'armisticelaw19.WitnessTells', WHERE WHAT IT READS IS OF BULK AT MOST 1048576: true; the input reads as it did. -/
def witnessTellsUptoRow : OpenClaim := { program := "ytknijbcmhjgllaagreat", sum := "701306fdda48e93bcda07152fcd56f621dea3150bcb0af3dfc446cdd069bad47", func := "armistice/armisticelaw19.WitnessTells", spec := "witnessTells", inPlace := ["slices.overlaps[int]", "math/bits.Add64", "internal/abi.NoEscape", "internal/bytealg.MakeNoZero"], unfollowed := true, recurses := true, apart := false, narrowed := true }
def WitnessTellsUptoSaid : Prop := witnessTellsUptoRow.holds Tryz.pinned (OpenSpec.upto witnessTellsSpec)

end Rows
end Go.Proofs.YtknijbcmhjgllaaGreat
