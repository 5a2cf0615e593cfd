/-
  No cell of these rows narrows 'for every input' (looked for: loops, veiled, ifaces, maps, wideKeys, modest, calm, conditions, laid).
  DERIVED. THE GIVEN ROWS OF THIS SEAT. 6 by the template 'for every input the law returns true; each argument reads behind the call as it read before'; 0 by the template 'total and deterministic' (their statements: YtajjmblgjdicoaaGreatTotals.lean).
  GIVEN WITH THE SEED: the statements are not yours to turn. If you find one false, say at which input.
  Laid BY PROGRAM, IN A SANDBOX (cutbox-rows.mjs): the forced cells as the released guide's own fill.sh prints them over the translation ea89dd21c2a1694b… (all of the seat's roots in one cut). By AI agents, Wed Nov 11 2026. No macro, syntax, notation, axiom, sorry.
-/
import Derived.Test.YtajjmblgjdicoaaGreatChecked
import GoSem.Claim
import GoSem.ClaimJoined
import GoSem.ClaimMapViews
import Derived.JoinedTies
import Derived.KernelRfl
namespace Go.Proofs.YtajjmblgjdicoaaGreat
/- THE CELL 'sum', in the pinned program and in every row, IS THE sha256 OF THE DUMP (.gsa) THAT YtajjmblgjdicoaaGreatProg.lean LOADS. Nothing in Lean hashes anything: it is a label: what it is worth is what the hold of that sum in a sandbox is worth. -/
noncomputable def Tryz.pinned : Pinned := { name := "ytajjmblgjdicoaagreat", sum := "ea89dd21c2a1694b15a8a6a9be5cdf516f6a6ebbebccaf58c807ec0ef4df4f6d", checked := Tryz.checked }
namespace Rows
def none {H : Type} : Left H := { results := [], args := [] }

/-- 'armisticelaw28.ExplainTells': WHATEVER THE INPUT: true; the input reads as it did. -/
def explainTellsSpec : ChangeSpec := { name := "explainTells", fn := fun _ => fun
  | [d1, d2] => { results := [.lit (.bool true)], args := [d1, d2] }
  | _ => none }
def explainTellsRow : OpenClaim := { program := "ytajjmblgjdicoaagreat", sum := "ea89dd21c2a1694b15a8a6a9be5cdf516f6a6ebbebccaf58c807ec0ef4df4f6d", func := "armistice/armisticelaw28.ExplainTells", spec := "explainTells", inPlace := ["slices.overlaps[int]"], unfollowed := true, recurses := true, apart := false }
def ExplainTellsSaid : Prop := explainTellsRow.holds Tryz.pinned (OpenSpec.ofChange explainTellsSpec)

/-- ITS FALSE NEIGHBOUR: 'it returns false'. Refute it at one input. -/
def explainTellsWrong : ChangeSpec := { name := "explainTells", fn := fun _ => fun
  | [d1, d2] => { results := [.lit (.bool false)], args := [d1, d2] }
  | _ => none }
def ExplainTellsWrongFalsely : Prop := explainTellsRow.holds Tryz.pinned (OpenSpec.ofChange explainTellsWrong)

/-- 'armisticelaw28.ExplainChecks': WHATEVER THE INPUT: true; the input reads as it did. -/
def explainChecksSpec : ChangeSpec := { name := "explainChecks", fn := fun _ => fun
  | [d1, d2, d3, d4] => { results := [.lit (.bool true)], args := [d1, d2, d3, d4] }
  | _ => none }
def explainChecksRow : OpenClaim := { program := "ytajjmblgjdicoaagreat", sum := "ea89dd21c2a1694b15a8a6a9be5cdf516f6a6ebbebccaf58c807ec0ef4df4f6d", func := "armistice/armisticelaw28.ExplainChecks", spec := "explainChecks", inPlace := ["slices.overlaps[int]"], unfollowed := true, recurses := true, apart := false }
def ExplainChecksSaid : Prop := explainChecksRow.holds Tryz.pinned (OpenSpec.ofChange explainChecksSpec)

/-- ITS FALSE NEIGHBOUR: 'it returns false'. Refute it at one input. -/
def explainChecksWrong : ChangeSpec := { name := "explainChecks", fn := fun _ => fun
  | [d1, d2, d3, d4] => { results := [.lit (.bool false)], args := [d1, d2, d3, d4] }
  | _ => none }
def ExplainChecksWrongFalsely : Prop := explainChecksRow.holds Tryz.pinned (OpenSpec.ofChange explainChecksWrong)

/-- 'armisticelaw28.ExplainKnown': WHATEVER THE INPUT: true; the input reads as it did. -/
def explainKnownSpec : ChangeSpec := { name := "explainKnown", fn := fun _ => fun
  | [] => { results := [.lit (.bool true)], args := [] }
  | _ => none }
def explainKnownRow : OpenClaim := { program := "ytajjmblgjdicoaagreat", sum := "ea89dd21c2a1694b15a8a6a9be5cdf516f6a6ebbebccaf58c807ec0ef4df4f6d", func := "armistice/armisticelaw28.ExplainKnown", spec := "explainKnown", inPlace := ["slices.overlaps[int]"], unfollowed := true, recurses := true, apart := false }
def ExplainKnownSaid : Prop := explainKnownRow.holds Tryz.pinned (OpenSpec.ofChange explainKnownSpec)

/-- ITS FALSE NEIGHBOUR: 'it returns false'. Refute it at one input. -/
def explainKnownWrong : ChangeSpec := { name := "explainKnown", fn := fun _ => fun
  | [] => { results := [.lit (.bool false)], args := [] }
  | _ => none }
def ExplainKnownWrongFalsely : Prop := explainKnownRow.holds Tryz.pinned (OpenSpec.ofChange explainKnownWrong)

/-- 'armisticelaw28.ExplainChain': WHATEVER THE INPUT: true; the input reads as it did. -/
def explainChainSpec : ChangeSpec := { name := "explainChain", fn := fun _ => fun
  | [d1, d2] => { results := [.lit (.bool true)], args := [d1, d2] }
  | _ => none }
def explainChainRow : OpenClaim := { program := "ytajjmblgjdicoaagreat", sum := "ea89dd21c2a1694b15a8a6a9be5cdf516f6a6ebbebccaf58c807ec0ef4df4f6d", func := "armistice/armisticelaw28.ExplainChain", spec := "explainChain", inPlace := ["slices.overlaps[int]"], unfollowed := true, recurses := true, apart := false }
def ExplainChainSaid : Prop := explainChainRow.holds Tryz.pinned (OpenSpec.ofChange explainChainSpec)

/-- ITS FALSE NEIGHBOUR: 'it returns false'. Refute it at one input. -/
def explainChainWrong : ChangeSpec := { name := "explainChain", fn := fun _ => fun
  | [d1, d2] => { results := [.lit (.bool false)], args := [d1, d2] }
  | _ => none }
def ExplainChainWrongFalsely : Prop := explainChainRow.holds Tryz.pinned (OpenSpec.ofChange explainChainWrong)

/-- 'armisticelaw28.ExplainOnly': WHATEVER THE INPUT: true; the input reads as it did. -/
def explainOnlySpec : ChangeSpec := { name := "explainOnly", fn := fun _ => fun
  | [d1, d2, d3, d4] => { results := [.lit (.bool true)], args := [d1, d2, d3, d4] }
  | _ => none }
def explainOnlyRow : OpenClaim := { program := "ytajjmblgjdicoaagreat", sum := "ea89dd21c2a1694b15a8a6a9be5cdf516f6a6ebbebccaf58c807ec0ef4df4f6d", func := "armistice/armisticelaw28.ExplainOnly", spec := "explainOnly", inPlace := ["slices.overlaps[int]"], unfollowed := true, recurses := true, apart := false }
def ExplainOnlySaid : Prop := explainOnlyRow.holds Tryz.pinned (OpenSpec.ofChange explainOnlySpec)

/-- ITS FALSE NEIGHBOUR: 'it returns false'. Refute it at one input. -/
def explainOnlyWrong : ChangeSpec := { name := "explainOnly", fn := fun _ => fun
  | [d1, d2, d3, d4] => { results := [.lit (.bool false)], args := [d1, d2, d3, d4] }
  | _ => none }
def ExplainOnlyWrongFalsely : Prop := explainOnlyRow.holds Tryz.pinned (OpenSpec.ofChange explainOnlyWrong)

/-- 'armisticelaw28.ExplainAbout': WHATEVER THE INPUT: true; the input reads as it did. -/
def explainAboutSpec : ChangeSpec := { name := "explainAbout", fn := fun _ => fun
  | [d] => { results := [.lit (.bool true)], args := [d] }
  | _ => none }
def explainAboutRow : OpenClaim := { program := "ytajjmblgjdicoaagreat", sum := "ea89dd21c2a1694b15a8a6a9be5cdf516f6a6ebbebccaf58c807ec0ef4df4f6d", func := "armistice/armisticelaw28.ExplainAbout", spec := "explainAbout", inPlace := ["slices.overlaps[int]"], unfollowed := true, recurses := true, apart := false }
def ExplainAboutSaid : Prop := explainAboutRow.holds Tryz.pinned (OpenSpec.ofChange explainAboutSpec)

/-- ITS FALSE NEIGHBOUR: 'it returns false'. Refute it at one input. -/
def explainAboutWrong : ChangeSpec := { name := "explainAbout", fn := fun _ => fun
  | [d] => { results := [.lit (.bool false)], args := [d] }
  | _ => none }
def ExplainAboutWrongFalsely : Prop := explainAboutRow.holds Tryz.pinned (OpenSpec.ofChange explainAboutWrong)

/- THE SECOND FORM. 'bulk': how many values and letters a reading holds, each counted each time it is reached (what is shared counts as often as it is met; a slice's spare places count too). A statement '..UptoSaid' is the law's where the arguments, and the package variables that the reading takes, are together of bulk at most 1048576: NARROWER than '..Said'. Prove '..Said' where nothing that the law and all that it calls make is longer than what came in: it says more and counts as full. Else prove '..UptoSaid'. A law counts once. -/
mutual
def uptoBulk {H : Type} : DataW H → Nat
  | .lit (.string bytes) => bytes.length + 1
  | .lit _ => 1
  | .nil => 1
  | .ptr d => uptoBulk d + 1
  | .slice elems spare => uptoBulkAll elems + uptoBulkAll spare + 1
  | .agg parts => uptoBulkAll parts + 1
  | .iface _ d => uptoBulk d + 1
  | .map entries => uptoBulkEntries entries + 1
  | .held _ => 1
def uptoBulkAll {H : Type} : List (DataW H) → Nat
  | [] => 0
  | d :: r => uptoBulk d + uptoBulkAll r
def uptoBulkEntries {H : Type} : List (Lit × DataW H) → Nat
  | [] => 0
  | x :: r => uptoBulkEntry x + uptoBulkEntries r
def uptoBulkEntry {H : Type} : Lit × DataW H → Nat
  | (.string bytes, d) => bytes.length + uptoBulk d + 1
  | (_, d) => uptoBulk d + 1
 end
def uptoSmall : (H : Type) → List (DataW H) → Bool := fun _ ds => decide (uptoBulkAll ds ≤ 1048576)
def OpenSpec.upto (s : _root_.Go.ChangeSpec) : _root_.Go.OpenSpec := { _root_.Go.OpenSpec.ofChange s with cond := some uptoSmall }

/-- 'armisticelaw28.ExplainTells', WHERE WHAT IT READS IS OF BULK AT MOST 1048576: true; the input reads as it did. -/
def explainTellsUptoRow : OpenClaim := { program := "ytajjmblgjdicoaagreat", sum := "ea89dd21c2a1694b15a8a6a9be5cdf516f6a6ebbebccaf58c807ec0ef4df4f6d", func := "armistice/armisticelaw28.ExplainTells", spec := "explainTells", inPlace := ["slices.overlaps[int]"], unfollowed := true, recurses := true, apart := false, narrowed := true }
def ExplainTellsUptoSaid : Prop := explainTellsUptoRow.holds Tryz.pinned (OpenSpec.upto explainTellsSpec)

/-- 'armisticelaw28.ExplainChecks', WHERE WHAT IT READS IS OF BULK AT MOST 1048576: true; the input reads as it did. -/
def explainChecksUptoRow : OpenClaim := { program := "ytajjmblgjdicoaagreat", sum := "ea89dd21c2a1694b15a8a6a9be5cdf516f6a6ebbebccaf58c807ec0ef4df4f6d", func := "armistice/armisticelaw28.ExplainChecks", spec := "explainChecks", inPlace := ["slices.overlaps[int]"], unfollowed := true, recurses := true, apart := false, narrowed := true }
def ExplainChecksUptoSaid : Prop := explainChecksUptoRow.holds Tryz.pinned (OpenSpec.upto explainChecksSpec)

/-- 'armisticelaw28.ExplainKnown', WHERE WHAT IT READS IS OF BULK AT MOST 1048576: true; the input reads as it did. -/
def explainKnownUptoRow : OpenClaim := { program := "ytajjmblgjdicoaagreat", sum := "ea89dd21c2a1694b15a8a6a9be5cdf516f6a6ebbebccaf58c807ec0ef4df4f6d", func := "armistice/armisticelaw28.ExplainKnown", spec := "explainKnown", inPlace := ["slices.overlaps[int]"], unfollowed := true, recurses := true, apart := false, narrowed := true }
def ExplainKnownUptoSaid : Prop := explainKnownUptoRow.holds Tryz.pinned (OpenSpec.upto explainKnownSpec)

/-- 'armisticelaw28.ExplainChain', WHERE WHAT IT READS IS OF BULK AT MOST 1048576: true; the input reads as it did. -/
def explainChainUptoRow : OpenClaim := { program := "ytajjmblgjdicoaagreat", sum := "ea89dd21c2a1694b15a8a6a9be5cdf516f6a6ebbebccaf58c807ec0ef4df4f6d", func := "armistice/armisticelaw28.ExplainChain", spec := "explainChain", inPlace := ["slices.overlaps[int]"], unfollowed := true, recurses := true, apart := false, narrowed := true }
def ExplainChainUptoSaid : Prop := explainChainUptoRow.holds Tryz.pinned (OpenSpec.upto explainChainSpec)

/-- 'armisticelaw28.ExplainOnly', WHERE WHAT IT READS IS OF BULK AT MOST 1048576: true; the input reads as it did. -/
def explainOnlyUptoRow : OpenClaim := { program := "ytajjmblgjdicoaagreat", sum := "ea89dd21c2a1694b15a8a6a9be5cdf516f6a6ebbebccaf58c807ec0ef4df4f6d", func := "armistice/armisticelaw28.ExplainOnly", spec := "explainOnly", inPlace := ["slices.overlaps[int]"], unfollowed := true, recurses := true, apart := false, narrowed := true }
def ExplainOnlyUptoSaid : Prop := explainOnlyUptoRow.holds Tryz.pinned (OpenSpec.upto explainOnlySpec)

/-- 'armisticelaw28.ExplainAbout', WHERE WHAT IT READS IS OF BULK AT MOST 1048576: true; the input reads as it did. -/
def explainAboutUptoRow : OpenClaim := { program := "ytajjmblgjdicoaagreat", sum := "ea89dd21c2a1694b15a8a6a9be5cdf516f6a6ebbebccaf58c807ec0ef4df4f6d", func := "armistice/armisticelaw28.ExplainAbout", spec := "explainAbout", inPlace := ["slices.overlaps[int]"], unfollowed := true, recurses := true, apart := false, narrowed := true }
def ExplainAboutUptoSaid : Prop := explainAboutUptoRow.holds Tryz.pinned (OpenSpec.upto explainAboutSpec)

end Rows
end Go.Proofs.YtajjmblgjdicoaaGreat
