/-
  No cell of these rows narrows 'for every input' (looked for: loops, veiled, ifaces, maps, wideKeys, modest, calm, conditions, laid).
  DERIVED. THE GIVEN ROWS OF THIS SEAT. 6 by the template 'for every input the law returns true; each argument reads behind the call as it read before'; 0 by the template 'total and deterministic' (their statements: YtbomeeiaeohbpaaTotals.lean).
  GIVEN WITH THE SEED: the statements are not yours to turn. If you find one false, say at which input.
  Laid BY PROGRAM, IN A SANDBOX (cutbox-rows.mjs): the forced cells as the released guide's own fill.sh prints them over the translation e5d27fd15b115782… (all of the seat's roots in one cut). By AI agents, Wed Nov 11 2026. No macro, syntax, notation, axiom, sorry.
-/
import Derived.Test.YtbomeeiaeohbpaaChecked
import GoSem.Claim
import GoSem.ClaimJoined
import GoSem.ClaimMapViews
import Derived.JoinedTies
import Derived.KernelRfl
namespace Go.Proofs.Ytbomeeiaeohbpaa
/- THE CELL 'sum', in the pinned program and in every row, IS THE sha256 OF THE DUMP (.gsa) THAT YtbomeeiaeohbpaaProg.lean LOADS. Nothing in Lean hashes anything: it is a label: what it is worth is what the hold of that sum in a sandbox is worth. -/
noncomputable def Try.pinned : Pinned := { name := "ytbomeeiaeohbpaa", sum := "e5d27fd15b115782ea3b602bbf1ad69d44f5e341bac0426303b14102331f4ebf", checked := Try.checked }
namespace Rows
def none {H : Type} : Left H := { results := [], args := [] }

/-- 'laws.FnExactAreConsistent': WHATEVER THE INPUT: true; the input reads as it did. -/
def fnExactAreConsistentSpec : ChangeSpec := { name := "fnExactAreConsistent", fn := fun _ => fun
  | [d1, d2, d3, d4] => { results := [.lit (.bool true)], args := [d1, d2, d3, d4] }
  | _ => none }
def fnExactAreConsistentRow : OpenClaim := { program := "ytbomeeiaeohbpaa", sum := "e5d27fd15b115782ea3b602bbf1ad69d44f5e341bac0426303b14102331f4ebf", func := "loop.example/g00810/laws.FnExactAreConsistent", spec := "fnExactAreConsistent", apart := false }
def FnExactAreConsistentSaid : Prop := fnExactAreConsistentRow.holds Try.pinned (OpenSpec.ofChange fnExactAreConsistentSpec)

/-- ITS FALSE NEIGHBOUR: 'it returns false'. Refute it at one input. -/
def fnExactAreConsistentWrong : ChangeSpec := { name := "fnExactAreConsistent", fn := fun _ => fun
  | [d1, d2, d3, d4] => { results := [.lit (.bool false)], args := [d1, d2, d3, d4] }
  | _ => none }
def FnExactAreConsistentWrongFalsely : Prop := fnExactAreConsistentRow.holds Try.pinned (OpenSpec.ofChange fnExactAreConsistentWrong)

/-- 'laws.FnExactConsistencyGraph': WHATEVER THE INPUT: true; the input reads as it did. -/
def fnExactConsistencyGraphSpec : ChangeSpec := { name := "fnExactConsistencyGraph", fn := fun _ => fun
  | [d1, d2] => { results := [.lit (.bool true)], args := [d1, d2] }
  | _ => none }
def fnExactConsistencyGraphRow : OpenClaim := { program := "ytbomeeiaeohbpaa", sum := "e5d27fd15b115782ea3b602bbf1ad69d44f5e341bac0426303b14102331f4ebf", func := "loop.example/g00810/laws.FnExactConsistencyGraph", spec := "fnExactConsistencyGraph", apart := false }
def FnExactConsistencyGraphSaid : Prop := fnExactConsistencyGraphRow.holds Try.pinned (OpenSpec.ofChange fnExactConsistencyGraphSpec)

/-- ITS FALSE NEIGHBOUR: 'it returns false'. Refute it at one input. -/
def fnExactConsistencyGraphWrong : ChangeSpec := { name := "fnExactConsistencyGraph", fn := fun _ => fun
  | [d1, d2] => { results := [.lit (.bool false)], args := [d1, d2] }
  | _ => none }
def FnExactConsistencyGraphWrongFalsely : Prop := fnExactConsistencyGraphRow.holds Try.pinned (OpenSpec.ofChange fnExactConsistencyGraphWrong)

/-- 'laws.FnLoops': WHATEVER THE INPUT: true; the input reads as it did. -/
def fnLoopsSpec : ChangeSpec := { name := "fnLoops", fn := fun _ => fun
  | [d] => { results := [.lit (.bool true)], args := [d] }
  | _ => none }
def fnLoopsRow : OpenClaim := { program := "ytbomeeiaeohbpaa", sum := "e5d27fd15b115782ea3b602bbf1ad69d44f5e341bac0426303b14102331f4ebf", func := "loop.example/g00810/laws.FnLoops", spec := "fnLoops", recurses := true, apart := false }
def FnLoopsSaid : Prop := fnLoopsRow.holds Try.pinned (OpenSpec.ofChange fnLoopsSpec)

/-- ITS FALSE NEIGHBOUR: 'it returns false'. Refute it at one input. -/
def fnLoopsWrong : ChangeSpec := { name := "fnLoops", fn := fun _ => fun
  | [d] => { results := [.lit (.bool false)], args := [d] }
  | _ => none }
def FnLoopsWrongFalsely : Prop := fnLoopsRow.holds Try.pinned (OpenSpec.ofChange fnLoopsWrong)

/-- 'laws.FnExactLoopScore': WHATEVER THE INPUT: true; the input reads as it did. -/
def fnExactLoopScoreSpec : ChangeSpec := { name := "fnExactLoopScore", fn := fun _ => fun
  | [d1, d2] => { results := [.lit (.bool true)], args := [d1, d2] }
  | _ => none }
def fnExactLoopScoreRow : OpenClaim := { program := "ytbomeeiaeohbpaa", sum := "e5d27fd15b115782ea3b602bbf1ad69d44f5e341bac0426303b14102331f4ebf", func := "loop.example/g00810/laws.FnExactLoopScore", spec := "fnExactLoopScore", recurses := true, apart := false }
def FnExactLoopScoreSaid : Prop := fnExactLoopScoreRow.holds Try.pinned (OpenSpec.ofChange fnExactLoopScoreSpec)

/-- ITS FALSE NEIGHBOUR: 'it returns false'. Refute it at one input. -/
def fnExactLoopScoreWrong : ChangeSpec := { name := "fnExactLoopScore", fn := fun _ => fun
  | [d1, d2] => { results := [.lit (.bool false)], args := [d1, d2] }
  | _ => none }
def FnExactLoopScoreWrongFalsely : Prop := fnExactLoopScoreRow.holds Try.pinned (OpenSpec.ofChange fnExactLoopScoreWrong)

/-- 'laws.FnExactExplainLoop': WHATEVER THE INPUT: true; the input reads as it did. -/
def fnExactExplainLoopSpec : ChangeSpec := { name := "fnExactExplainLoop", fn := fun _ => fun
  | [d1, d2, d3] => { results := [.lit (.bool true)], args := [d1, d2, d3] }
  | _ => none }
def fnExactExplainLoopRow : OpenClaim := { program := "ytbomeeiaeohbpaa", sum := "e5d27fd15b115782ea3b602bbf1ad69d44f5e341bac0426303b14102331f4ebf", func := "loop.example/g00810/laws.FnExactExplainLoop", spec := "fnExactExplainLoop", recurses := true, apart := false }
def FnExactExplainLoopSaid : Prop := fnExactExplainLoopRow.holds Try.pinned (OpenSpec.ofChange fnExactExplainLoopSpec)

/-- ITS FALSE NEIGHBOUR: 'it returns false'. Refute it at one input. -/
def fnExactExplainLoopWrong : ChangeSpec := { name := "fnExactExplainLoop", fn := fun _ => fun
  | [d1, d2, d3] => { results := [.lit (.bool false)], args := [d1, d2, d3] }
  | _ => none }
def FnExactExplainLoopWrongFalsely : Prop := fnExactExplainLoopRow.holds Try.pinned (OpenSpec.ofChange fnExactExplainLoopWrong)

/-- 'laws.FnExactConsistentLoops': WHATEVER THE INPUT: true; the input reads as it did. -/
def fnExactConsistentLoopsSpec : ChangeSpec := { name := "fnExactConsistentLoops", fn := fun _ => fun
  | [d1, d2] => { results := [.lit (.bool true)], args := [d1, d2] }
  | _ => none }
def fnExactConsistentLoopsRow : OpenClaim := { program := "ytbomeeiaeohbpaa", sum := "e5d27fd15b115782ea3b602bbf1ad69d44f5e341bac0426303b14102331f4ebf", func := "loop.example/g00810/laws.FnExactConsistentLoops", spec := "fnExactConsistentLoops", recurses := true, apart := false }
def FnExactConsistentLoopsSaid : Prop := fnExactConsistentLoopsRow.holds Try.pinned (OpenSpec.ofChange fnExactConsistentLoopsSpec)

/-- ITS FALSE NEIGHBOUR: 'it returns false'. Refute it at one input. -/
def fnExactConsistentLoopsWrong : ChangeSpec := { name := "fnExactConsistentLoops", fn := fun _ => fun
  | [d1, d2] => { results := [.lit (.bool false)], args := [d1, d2] }
  | _ => none }
def FnExactConsistentLoopsWrongFalsely : Prop := fnExactConsistentLoopsRow.holds Try.pinned (OpenSpec.ofChange fnExactConsistentLoopsWrong)

/- THE SECOND FORM. 'bulk': how many values and letters a reading holds, each counted each time it is reached (what is shared counts as often as it is met; a slice's spare places count too). A statement '..UptoSaid' is the law's where the arguments, and the package variables that the reading takes, are together of bulk at most 1048576: NARROWER than '..Said'. Prove '..Said' where nothing that the law and all that it calls make is longer than what came in: it says more and counts as full. Else prove '..UptoSaid'. A law counts once. -/
mutual
def uptoBulk {H : Type} : DataW H → Nat
  | .lit (.string bytes) => bytes.length + 1
  | .lit _ => 1
  | .nil => 1
  | .ptr d => uptoBulk d + 1
  | .slice elems spare => uptoBulkAll elems + uptoBulkAll spare + 1
  | .agg parts => uptoBulkAll parts + 1
  | .iface _ d => uptoBulk d + 1
  | .map entries => uptoBulkEntries entries + 1
  | .held _ => 1
def uptoBulkAll {H : Type} : List (DataW H) → Nat
  | [] => 0
  | d :: r => uptoBulk d + uptoBulkAll r
def uptoBulkEntries {H : Type} : List (Lit × DataW H) → Nat
  | [] => 0
  | x :: r => uptoBulkEntry x + uptoBulkEntries r
def uptoBulkEntry {H : Type} : Lit × DataW H → Nat
  | (.string bytes, d) => bytes.length + uptoBulk d + 1
  | (_, d) => uptoBulk d + 1
 end
def uptoSmall : (H : Type) → List (DataW H) → Bool := fun _ ds => decide (uptoBulkAll ds ≤ 1048576)
def OpenSpec.upto (s : _root_.Go.ChangeSpec) : _root_.Go.OpenSpec := { _root_.Go.OpenSpec.ofChange s with cond := some uptoSmall }

/-- 'laws.FnExactAreConsistent', WHERE WHAT IT READS IS OF BULK AT MOST 1048576: true; the input reads as it did. -/
def fnExactAreConsistentUptoRow : OpenClaim := { program := "ytbomeeiaeohbpaa", sum := "e5d27fd15b115782ea3b602bbf1ad69d44f5e341bac0426303b14102331f4ebf", func := "loop.example/g00810/laws.FnExactAreConsistent", spec := "fnExactAreConsistent", apart := false, narrowed := true }
def FnExactAreConsistentUptoSaid : Prop := fnExactAreConsistentUptoRow.holds Try.pinned (OpenSpec.upto fnExactAreConsistentSpec)

/-- 'laws.FnExactConsistencyGraph', WHERE WHAT IT READS IS OF BULK AT MOST 1048576: true; the input reads as it did. -/
def fnExactConsistencyGraphUptoRow : OpenClaim := { program := "ytbomeeiaeohbpaa", sum := "e5d27fd15b115782ea3b602bbf1ad69d44f5e341bac0426303b14102331f4ebf", func := "loop.example/g00810/laws.FnExactConsistencyGraph", spec := "fnExactConsistencyGraph", apart := false, narrowed := true }
def FnExactConsistencyGraphUptoSaid : Prop := fnExactConsistencyGraphUptoRow.holds Try.pinned (OpenSpec.upto fnExactConsistencyGraphSpec)

/-- 'laws.FnLoops', WHERE WHAT IT READS IS OF BULK AT MOST 1048576: true; the input reads as it did. -/
def fnLoopsUptoRow : OpenClaim := { program := "ytbomeeiaeohbpaa", sum := "e5d27fd15b115782ea3b602bbf1ad69d44f5e341bac0426303b14102331f4ebf", func := "loop.example/g00810/laws.FnLoops", spec := "fnLoops", recurses := true, apart := false, narrowed := true }
def FnLoopsUptoSaid : Prop := fnLoopsUptoRow.holds Try.pinned (OpenSpec.upto fnLoopsSpec)

/-- 'laws.FnExactLoopScore', WHERE WHAT IT READS IS OF BULK AT MOST 1048576: true; the input reads as it did. -/
def fnExactLoopScoreUptoRow : OpenClaim := { program := "ytbomeeiaeohbpaa", sum := "e5d27fd15b115782ea3b602bbf1ad69d44f5e341bac0426303b14102331f4ebf", func := "loop.example/g00810/laws.FnExactLoopScore", spec := "fnExactLoopScore", recurses := true, apart := false, narrowed := true }
def FnExactLoopScoreUptoSaid : Prop := fnExactLoopScoreUptoRow.holds Try.pinned (OpenSpec.upto fnExactLoopScoreSpec)

/-- 'laws.FnExactExplainLoop', WHERE WHAT IT READS IS OF BULK AT MOST 1048576: true; the input reads as it did. -/
def fnExactExplainLoopUptoRow : OpenClaim := { program := "ytbomeeiaeohbpaa", sum := "e5d27fd15b115782ea3b602bbf1ad69d44f5e341bac0426303b14102331f4ebf", func := "loop.example/g00810/laws.FnExactExplainLoop", spec := "fnExactExplainLoop", recurses := true, apart := false, narrowed := true }
def FnExactExplainLoopUptoSaid : Prop := fnExactExplainLoopUptoRow.holds Try.pinned (OpenSpec.upto fnExactExplainLoopSpec)

/-- 'laws.FnExactConsistentLoops', WHERE WHAT IT READS IS OF BULK AT MOST 1048576: true; the input reads as it did. -/
def fnExactConsistentLoopsUptoRow : OpenClaim := { program := "ytbomeeiaeohbpaa", sum := "e5d27fd15b115782ea3b602bbf1ad69d44f5e341bac0426303b14102331f4ebf", func := "loop.example/g00810/laws.FnExactConsistentLoops", spec := "fnExactConsistentLoops", recurses := true, apart := false, narrowed := true }
def FnExactConsistentLoopsUptoSaid : Prop := fnExactConsistentLoopsUptoRow.holds Try.pinned (OpenSpec.upto fnExactConsistentLoopsSpec)

end Rows
end Go.Proofs.Ytbomeeiaeohbpaa
