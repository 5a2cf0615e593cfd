/-
  No cell of these rows narrows 'for every input' (looked for: loops, veiled, ifaces, maps, wideKeys, modest, calm, conditions, laid).
  DERIVED. THE GIVEN ROWS OF THIS SEAT. 5 by the template 'for every input the law returns true; each argument reads behind the call as it read before'; 0 by the template 'total and deterministic' (their statements: YtncbiabbkgkdiaaTotals.lean).
  GIVEN WITH THE SEED: the statements are not yours to turn. If you find one false, say at which input.
  Laid BY PROGRAM, IN A SANDBOX (cutbox-rows.mjs): the forced cells as the released guide's own fill.sh prints them over the translation 9cc72e2ba42d1416… (all of the seat's roots in one cut). By AI agents, Wed Nov 11 2026. No macro, syntax, notation, axiom, sorry.
-/
import Derived.Test.YtncbiabbkgkdiaaChecked
import GoSem.Claim
import GoSem.ClaimJoined
import GoSem.ClaimMapViews
import Derived.JoinedTies
import Derived.KernelRfl
namespace Go.Proofs.Ytncbiabbkgkdiaa
/- THE CELL 'sum', in the pinned program and in every row, IS THE sha256 OF THE DUMP (.gsa) THAT YtncbiabbkgkdiaaProg.lean LOADS. Nothing in Lean hashes anything: it is a label: what it is worth is what the hold of that sum in a sandbox is worth. -/
noncomputable def Try.pinned : Pinned := { name := "ytncbiabbkgkdiaa", sum := "9cc72e2ba42d1416597e82f0095cb9735e09ee36c6eb53d21b9057902e12c327", checked := Try.checked }
namespace Rows
def none {H : Type} : Left H := { results := [], args := [] }

/-- 'armisticelaw06.CounterApplies': WHATEVER THE INPUT: true; the input reads as it did. -/
def counterAppliesSpec : ChangeSpec := { name := "counterApplies", fn := fun _ => fun
  | [d1, d2, d3, d4] => { results := [.lit (.bool true)], args := [d1, d2, d3, d4] }
  | _ => none }
def counterAppliesRow : OpenClaim := { program := "ytncbiabbkgkdiaa", sum := "9cc72e2ba42d1416597e82f0095cb9735e09ee36c6eb53d21b9057902e12c327", func := "armistice/armisticelaw06.CounterApplies", spec := "counterApplies", unfollowed := true, recurses := true, apart := false }
def CounterAppliesSaid : Prop := counterAppliesRow.holds Try.pinned (OpenSpec.ofChange counterAppliesSpec)

/-- ITS FALSE NEIGHBOUR: 'it returns false'. Refute it at one input. -/
def counterAppliesWrong : ChangeSpec := { name := "counterApplies", fn := fun _ => fun
  | [d1, d2, d3, d4] => { results := [.lit (.bool false)], args := [d1, d2, d3, d4] }
  | _ => none }
def CounterAppliesWrongFalsely : Prop := counterAppliesRow.holds Try.pinned (OpenSpec.ofChange counterAppliesWrong)

/-- 'armisticelaw06.CounterTotals': WHATEVER THE INPUT: true; the input reads as it did. -/
def counterTotalsSpec : ChangeSpec := { name := "counterTotals", fn := fun _ => fun
  | [d1, d2] => { results := [.lit (.bool true)], args := [d1, d2] }
  | _ => none }
def counterTotalsRow : OpenClaim := { program := "ytncbiabbkgkdiaa", sum := "9cc72e2ba42d1416597e82f0095cb9735e09ee36c6eb53d21b9057902e12c327", func := "armistice/armisticelaw06.CounterTotals", spec := "counterTotals", unfollowed := true, recurses := true, apart := false }
def CounterTotalsSaid : Prop := counterTotalsRow.holds Try.pinned (OpenSpec.ofChange counterTotalsSpec)

/-- ITS FALSE NEIGHBOUR: 'it returns false'. Refute it at one input. -/
def counterTotalsWrong : ChangeSpec := { name := "counterTotals", fn := fun _ => fun
  | [d1, d2] => { results := [.lit (.bool false)], args := [d1, d2] }
  | _ => none }
def CounterTotalsWrongFalsely : Prop := counterTotalsRow.holds Try.pinned (OpenSpec.ofChange counterTotalsWrong)

/-- 'armisticelaw06.CounterKnown': WHATEVER THE INPUT: true; the input reads as it did. -/
def counterKnownSpec : ChangeSpec := { name := "counterKnown", fn := fun _ => fun
  | [] => { results := [.lit (.bool true)], args := [] }
  | _ => none }
def counterKnownRow : OpenClaim := { program := "ytncbiabbkgkdiaa", sum := "9cc72e2ba42d1416597e82f0095cb9735e09ee36c6eb53d21b9057902e12c327", func := "armistice/armisticelaw06.CounterKnown", spec := "counterKnown", unfollowed := true, recurses := true, apart := false }
def CounterKnownSaid : Prop := counterKnownRow.holds Try.pinned (OpenSpec.ofChange counterKnownSpec)

/-- ITS FALSE NEIGHBOUR: 'it returns false'. Refute it at one input. -/
def counterKnownWrong : ChangeSpec := { name := "counterKnown", fn := fun _ => fun
  | [] => { results := [.lit (.bool false)], args := [] }
  | _ => none }
def CounterKnownWrongFalsely : Prop := counterKnownRow.holds Try.pinned (OpenSpec.ofChange counterKnownWrong)

/-- 'armisticelaw06.CounterAdds': WHATEVER THE INPUT: true; the input reads as it did. -/
def counterAddsSpec : ChangeSpec := { name := "counterAdds", fn := fun _ => fun
  | [d1, d2, d3] => { results := [.lit (.bool true)], args := [d1, d2, d3] }
  | _ => none }
def counterAddsRow : OpenClaim := { program := "ytncbiabbkgkdiaa", sum := "9cc72e2ba42d1416597e82f0095cb9735e09ee36c6eb53d21b9057902e12c327", func := "armistice/armisticelaw06.CounterAdds", spec := "counterAdds", unfollowed := true, recurses := true, apart := false }
def CounterAddsSaid : Prop := counterAddsRow.holds Try.pinned (OpenSpec.ofChange counterAddsSpec)

/-- ITS FALSE NEIGHBOUR: 'it returns false'. Refute it at one input. -/
def counterAddsWrong : ChangeSpec := { name := "counterAdds", fn := fun _ => fun
  | [d1, d2, d3] => { results := [.lit (.bool false)], args := [d1, d2, d3] }
  | _ => none }
def CounterAddsWrongFalsely : Prop := counterAddsRow.holds Try.pinned (OpenSpec.ofChange counterAddsWrong)

/-- 'armisticelaw06.CounterSums': WHATEVER THE INPUT: true; the input reads as it did. -/
def counterSumsSpec : ChangeSpec := { name := "counterSums", fn := fun _ => fun
  | [d1, d2, d3] => { results := [.lit (.bool true)], args := [d1, d2, d3] }
  | _ => none }
def counterSumsRow : OpenClaim := { program := "ytncbiabbkgkdiaa", sum := "9cc72e2ba42d1416597e82f0095cb9735e09ee36c6eb53d21b9057902e12c327", func := "armistice/armisticelaw06.CounterSums", spec := "counterSums", unfollowed := true, recurses := true, apart := false }
def CounterSumsSaid : Prop := counterSumsRow.holds Try.pinned (OpenSpec.ofChange counterSumsSpec)

/-- ITS FALSE NEIGHBOUR: 'it returns false'. Refute it at one input. -/
def counterSumsWrong : ChangeSpec := { name := "counterSums", fn := fun _ => fun
  | [d1, d2, d3] => { results := [.lit (.bool false)], args := [d1, d2, d3] }
  | _ => none }
def CounterSumsWrongFalsely : Prop := counterSumsRow.holds Try.pinned (OpenSpec.ofChange counterSumsWrong)

/- THE SECOND FORM. 'bulk': how many values and letters a reading holds, each counted each time it is reached (what is shared counts as often as it is met; a slice's spare places count too). A statement '..UptoSaid' is the law's where the arguments, and the package variables that the reading takes, are together of bulk at most 1048576: NARROWER than '..Said'. Prove '..Said' where nothing that the law and all that it calls make is longer than what came in: it says more and counts as full. Else prove '..UptoSaid'. A law counts once. -/
mutual
def uptoBulk {H : Type} : DataW H → Nat
  | .lit (.string bytes) => bytes.length + 1
  | .lit _ => 1
  | .nil => 1
  | .ptr d => uptoBulk d + 1
  | .slice elems spare => uptoBulkAll elems + uptoBulkAll spare + 1
  | .agg parts => uptoBulkAll parts + 1
  | .iface _ d => uptoBulk d + 1
  | .map entries => uptoBulkEntries entries + 1
  | .held _ => 1
def uptoBulkAll {H : Type} : List (DataW H) → Nat
  | [] => 0
  | d :: r => uptoBulk d + uptoBulkAll r
def uptoBulkEntries {H : Type} : List (Lit × DataW H) → Nat
  | [] => 0
  | x :: r => uptoBulkEntry x + uptoBulkEntries r
def uptoBulkEntry {H : Type} : Lit × DataW H → Nat
  | (.string bytes, d) => bytes.length + uptoBulk d + 1
  | (_, d) => uptoBulk d + 1
 end
def uptoSmall : (H : Type) → List (DataW H) → Bool := fun _ ds => decide (uptoBulkAll ds ≤ 1048576)
def OpenSpec.upto (s : _root_.Go.ChangeSpec) : _root_.Go.OpenSpec := { _root_.Go.OpenSpec.ofChange s with cond := some uptoSmall }

/-- 'armisticelaw06.CounterApplies', WHERE WHAT IT READS IS OF BULK AT MOST 1048576: true; the input reads as it did. -/
def counterAppliesUptoRow : OpenClaim := { program := "ytncbiabbkgkdiaa", sum := "9cc72e2ba42d1416597e82f0095cb9735e09ee36c6eb53d21b9057902e12c327", func := "armistice/armisticelaw06.CounterApplies", spec := "counterApplies", unfollowed := true, recurses := true, apart := false, narrowed := true }
def CounterAppliesUptoSaid : Prop := counterAppliesUptoRow.holds Try.pinned (OpenSpec.upto counterAppliesSpec)

/-- 'armisticelaw06.CounterTotals', WHERE WHAT IT READS IS OF BULK AT MOST 1048576: true; the input reads as it did. -/
def counterTotalsUptoRow : OpenClaim := { program := "ytncbiabbkgkdiaa", sum := "9cc72e2ba42d1416597e82f0095cb9735e09ee36c6eb53d21b9057902e12c327", func := "armistice/armisticelaw06.CounterTotals", spec := "counterTotals", unfollowed := true, recurses := true, apart := false, narrowed := true }
def CounterTotalsUptoSaid : Prop := counterTotalsUptoRow.holds Try.pinned (OpenSpec.upto counterTotalsSpec)

/-- 'armisticelaw06.CounterKnown', WHERE WHAT IT READS IS OF BULK AT MOST 1048576: true; the input reads as it did. -/
def counterKnownUptoRow : OpenClaim := { program := "ytncbiabbkgkdiaa", sum := "9cc72e2ba42d1416597e82f0095cb9735e09ee36c6eb53d21b9057902e12c327", func := "armistice/armisticelaw06.CounterKnown", spec := "counterKnown", unfollowed := true, recurses := true, apart := false, narrowed := true }
def CounterKnownUptoSaid : Prop := counterKnownUptoRow.holds Try.pinned (OpenSpec.upto counterKnownSpec)

/-- 'armisticelaw06.CounterAdds', WHERE WHAT IT READS IS OF BULK AT MOST 1048576: true; the input reads as it did. -/
def counterAddsUptoRow : OpenClaim := { program := "ytncbiabbkgkdiaa", sum := "9cc72e2ba42d1416597e82f0095cb9735e09ee36c6eb53d21b9057902e12c327", func := "armistice/armisticelaw06.CounterAdds", spec := "counterAdds", unfollowed := true, recurses := true, apart := false, narrowed := true }
def CounterAddsUptoSaid : Prop := counterAddsUptoRow.holds Try.pinned (OpenSpec.upto counterAddsSpec)

/-- 'armisticelaw06.CounterSums', WHERE WHAT IT READS IS OF BULK AT MOST 1048576: true; the input reads as it did. -/
def counterSumsUptoRow : OpenClaim := { program := "ytncbiabbkgkdiaa", sum := "9cc72e2ba42d1416597e82f0095cb9735e09ee36c6eb53d21b9057902e12c327", func := "armistice/armisticelaw06.CounterSums", spec := "counterSums", unfollowed := true, recurses := true, apart := false, narrowed := true }
def CounterSumsUptoSaid : Prop := counterSumsUptoRow.holds Try.pinned (OpenSpec.upto counterSumsSpec)

end Rows
end Go.Proofs.Ytncbiabbkgkdiaa
