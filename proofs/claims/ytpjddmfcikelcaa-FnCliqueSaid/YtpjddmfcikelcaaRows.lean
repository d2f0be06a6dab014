/-
  No cell of these rows narrows 'for every input' (looked for: loops, veiled, ifaces, maps, wideKeys, modest, calm, conditions, laid).
  DERIVED. THE GIVEN ROWS OF THIS SEAT. 11 by the template 'for every input the law returns true; each argument reads behind the call as it read before'; 0 by the template 'total and deterministic' (their statements: YtpjddmfcikelcaaTotals.lean).
  GIVEN WITH THE SEED: the statements are not yours to turn. If you find one false, say at which input.
  Laid BY PROGRAM, IN A SANDBOX (cutbox-rows.mjs): the forced cells as the released guide's own fill.sh prints them over the translation 315af83c8b9a0e3a… (all of the seat's roots in one cut). By AI agents, Wed Nov 11 2026. No macro, syntax, notation, axiom, sorry.
-/
import Derived.Test.YtpjddmfcikelcaaChecked
import GoSem.Claim
import GoSem.ClaimJoined
import GoSem.ClaimMapViews
import Derived.JoinedTies
import Derived.KernelRfl
namespace Go.Proofs.Ytpjddmfcikelcaa
/- THE CELL 'sum', in the pinned program and in every row, IS THE sha256 OF THE DUMP (.gsa) THAT YtpjddmfcikelcaaProg.lean LOADS. Nothing in Lean hashes anything: it is a label: what it is worth is what the hold of that sum in a sandbox is worth. -/
noncomputable def Try.pinned : Pinned := { name := "ytpjddmfcikelcaa", sum := "315af83c8b9a0e3a5382b308ea1c86111b3bbcb3fcaa61a1ffc31bd31cbcf53e", checked := Try.checked }
namespace Rows
def none {H : Type} : Left H := { results := [], args := [] }

/-- 'laws.FnClique': WHATEVER THE INPUT: true; the input reads as it did. -/
def fnCliqueSpec : ChangeSpec := { name := "fnClique", fn := fun _ => fun
  | [d] => { results := [.lit (.bool true)], args := [d] }
  | _ => none }
def fnCliqueRow : OpenClaim := { program := "ytpjddmfcikelcaa", sum := "315af83c8b9a0e3a5382b308ea1c86111b3bbcb3fcaa61a1ffc31bd31cbcf53e", func := "loop.example/g00810/laws.FnClique", spec := "fnClique", apart := false }
def FnCliqueSaid : Prop := fnCliqueRow.holds Try.pinned (OpenSpec.ofChange fnCliqueSpec)

/-- ITS FALSE NEIGHBOUR: 'it returns false'. Refute it at one input. -/
def fnCliqueWrong : ChangeSpec := { name := "fnClique", fn := fun _ => fun
  | [d] => { results := [.lit (.bool false)], args := [d] }
  | _ => none }
def FnCliqueWrongFalsely : Prop := fnCliqueRow.holds Try.pinned (OpenSpec.ofChange fnCliqueWrong)

/-- 'laws.FnExactGreedyColors': WHATEVER THE INPUT: true; the input reads as it did. -/
def fnExactGreedyColorsSpec : ChangeSpec := { name := "fnExactGreedyColors", fn := fun _ => fun
  | [d] => { results := [.lit (.bool true)], args := [d] }
  | _ => none }
def fnExactGreedyColorsRow : OpenClaim := { program := "ytpjddmfcikelcaa", sum := "315af83c8b9a0e3a5382b308ea1c86111b3bbcb3fcaa61a1ffc31bd31cbcf53e", func := "loop.example/g00810/laws.FnExactGreedyColors", spec := "fnExactGreedyColors", apart := false }
def FnExactGreedyColorsSaid : Prop := fnExactGreedyColorsRow.holds Try.pinned (OpenSpec.ofChange fnExactGreedyColorsSpec)

/-- ITS FALSE NEIGHBOUR: 'it returns false'. Refute it at one input. -/
def fnExactGreedyColorsWrong : ChangeSpec := { name := "fnExactGreedyColors", fn := fun _ => fun
  | [d] => { results := [.lit (.bool false)], args := [d] }
  | _ => none }
def FnExactGreedyColorsWrongFalsely : Prop := fnExactGreedyColorsRow.holds Try.pinned (OpenSpec.ofChange fnExactGreedyColorsWrong)

/-- 'laws.FnExactCountMaximalCliques': WHATEVER THE INPUT: true; the input reads as it did. -/
def fnExactCountMaximalCliquesSpec : ChangeSpec := { name := "fnExactCountMaximalCliques", fn := fun _ => fun
  | [d] => { results := [.lit (.bool true)], args := [d] }
  | _ => none }
def fnExactCountMaximalCliquesRow : OpenClaim := { program := "ytpjddmfcikelcaa", sum := "315af83c8b9a0e3a5382b308ea1c86111b3bbcb3fcaa61a1ffc31bd31cbcf53e", func := "loop.example/g00810/laws.FnExactCountMaximalCliques", spec := "fnExactCountMaximalCliques", recurses := true, apart := false }
def FnExactCountMaximalCliquesSaid : Prop := fnExactCountMaximalCliquesRow.holds Try.pinned (OpenSpec.ofChange fnExactCountMaximalCliquesSpec)

/-- ITS FALSE NEIGHBOUR: 'it returns false'. Refute it at one input. -/
def fnExactCountMaximalCliquesWrong : ChangeSpec := { name := "fnExactCountMaximalCliques", fn := fun _ => fun
  | [d] => { results := [.lit (.bool false)], args := [d] }
  | _ => none }
def FnExactCountMaximalCliquesWrongFalsely : Prop := fnExactCountMaximalCliquesRow.holds Try.pinned (OpenSpec.ofChange fnExactCountMaximalCliquesWrong)

/-- 'laws.FnExactMaxClique': WHATEVER THE INPUT: true; the input reads as it did. -/
def fnExactMaxCliqueSpec : ChangeSpec := { name := "fnExactMaxClique", fn := fun _ => fun
  | [d] => { results := [.lit (.bool true)], args := [d] }
  | _ => none }
def fnExactMaxCliqueRow : OpenClaim := { program := "ytpjddmfcikelcaa", sum := "315af83c8b9a0e3a5382b308ea1c86111b3bbcb3fcaa61a1ffc31bd31cbcf53e", func := "loop.example/g00810/laws.FnExactMaxClique", spec := "fnExactMaxClique", recurses := true, apart := false }
def FnExactMaxCliqueSaid : Prop := fnExactMaxCliqueRow.holds Try.pinned (OpenSpec.ofChange fnExactMaxCliqueSpec)

/-- ITS FALSE NEIGHBOUR: 'it returns false'. Refute it at one input. -/
def fnExactMaxCliqueWrong : ChangeSpec := { name := "fnExactMaxClique", fn := fun _ => fun
  | [d] => { results := [.lit (.bool false)], args := [d] }
  | _ => none }
def FnExactMaxCliqueWrongFalsely : Prop := fnExactMaxCliqueRow.holds Try.pinned (OpenSpec.ofChange fnExactMaxCliqueWrong)

/-- 'laws.FnExactOtherLoops': WHATEVER THE INPUT: true; the input reads as it did. -/
def fnExactOtherLoopsSpec : ChangeSpec := { name := "fnExactOtherLoops", fn := fun _ => fun
  | [d1, d2] => { results := [.lit (.bool true)], args := [d1, d2] }
  | _ => none }
def fnExactOtherLoopsRow : OpenClaim := { program := "ytpjddmfcikelcaa", sum := "315af83c8b9a0e3a5382b308ea1c86111b3bbcb3fcaa61a1ffc31bd31cbcf53e", func := "loop.example/g00810/laws.FnExactOtherLoops", spec := "fnExactOtherLoops", apart := false }
def FnExactOtherLoopsSaid : Prop := fnExactOtherLoopsRow.holds Try.pinned (OpenSpec.ofChange fnExactOtherLoopsSpec)

/-- ITS FALSE NEIGHBOUR: 'it returns false'. Refute it at one input. -/
def fnExactOtherLoopsWrong : ChangeSpec := { name := "fnExactOtherLoops", fn := fun _ => fun
  | [d1, d2] => { results := [.lit (.bool false)], args := [d1, d2] }
  | _ => none }
def FnExactOtherLoopsWrongFalsely : Prop := fnExactOtherLoopsRow.holds Try.pinned (OpenSpec.ofChange fnExactOtherLoopsWrong)

/-- 'laws.FnExactExtendsClique': WHATEVER THE INPUT: true; the input reads as it did. -/
def fnExactExtendsCliqueSpec : ChangeSpec := { name := "fnExactExtendsClique", fn := fun _ => fun
  | [d1, d2] => { results := [.lit (.bool true)], args := [d1, d2] }
  | _ => none }
def fnExactExtendsCliqueRow : OpenClaim := { program := "ytpjddmfcikelcaa", sum := "315af83c8b9a0e3a5382b308ea1c86111b3bbcb3fcaa61a1ffc31bd31cbcf53e", func := "loop.example/g00810/laws.FnExactExtendsClique", spec := "fnExactExtendsClique", apart := false }
def FnExactExtendsCliqueSaid : Prop := fnExactExtendsCliqueRow.holds Try.pinned (OpenSpec.ofChange fnExactExtendsCliqueSpec)

/-- ITS FALSE NEIGHBOUR: 'it returns false'. Refute it at one input. -/
def fnExactExtendsCliqueWrong : ChangeSpec := { name := "fnExactExtendsClique", fn := fun _ => fun
  | [d1, d2] => { results := [.lit (.bool false)], args := [d1, d2] }
  | _ => none }
def FnExactExtendsCliqueWrongFalsely : Prop := fnExactExtendsCliqueRow.holds Try.pinned (OpenSpec.ofChange fnExactExtendsCliqueWrong)

/-- 'laws.FnExactLoopOf': WHATEVER THE INPUT: true; the input reads as it did. -/
def fnExactLoopOfSpec : ChangeSpec := { name := "fnExactLoopOf", fn := fun _ => fun
  | [d1, d2] => { results := [.lit (.bool true)], args := [d1, d2] }
  | _ => none }
def fnExactLoopOfRow : OpenClaim := { program := "ytpjddmfcikelcaa", sum := "315af83c8b9a0e3a5382b308ea1c86111b3bbcb3fcaa61a1ffc31bd31cbcf53e", func := "loop.example/g00810/laws.FnExactLoopOf", spec := "fnExactLoopOf", apart := false }
def FnExactLoopOfSaid : Prop := fnExactLoopOfRow.holds Try.pinned (OpenSpec.ofChange fnExactLoopOfSpec)

/-- ITS FALSE NEIGHBOUR: 'it returns false'. Refute it at one input. -/
def fnExactLoopOfWrong : ChangeSpec := { name := "fnExactLoopOf", fn := fun _ => fun
  | [d1, d2] => { results := [.lit (.bool false)], args := [d1, d2] }
  | _ => none }
def FnExactLoopOfWrongFalsely : Prop := fnExactLoopOfRow.holds Try.pinned (OpenSpec.ofChange fnExactLoopOfWrong)

/-- 'laws.FnExactLoopOffset': WHATEVER THE INPUT: true; the input reads as it did. -/
def fnExactLoopOffsetSpec : ChangeSpec := { name := "fnExactLoopOffset", fn := fun _ => fun
  | [d1, d2] => { results := [.lit (.bool true)], args := [d1, d2] }
  | _ => none }
def fnExactLoopOffsetRow : OpenClaim := { program := "ytpjddmfcikelcaa", sum := "315af83c8b9a0e3a5382b308ea1c86111b3bbcb3fcaa61a1ffc31bd31cbcf53e", func := "loop.example/g00810/laws.FnExactLoopOffset", spec := "fnExactLoopOffset", apart := false }
def FnExactLoopOffsetSaid : Prop := fnExactLoopOffsetRow.holds Try.pinned (OpenSpec.ofChange fnExactLoopOffsetSpec)

/-- ITS FALSE NEIGHBOUR: 'it returns false'. Refute it at one input. -/
def fnExactLoopOffsetWrong : ChangeSpec := { name := "fnExactLoopOffset", fn := fun _ => fun
  | [d1, d2] => { results := [.lit (.bool false)], args := [d1, d2] }
  | _ => none }
def FnExactLoopOffsetWrongFalsely : Prop := fnExactLoopOffsetRow.holds Try.pinned (OpenSpec.ofChange fnExactLoopOffsetWrong)

/-- 'laws.FnExactLoopError': WHATEVER THE INPUT: true; the input reads as it did. -/
def fnExactLoopErrorSpec : ChangeSpec := { name := "fnExactLoopError", fn := fun _ => fun
  | [d1, d2, d3] => { results := [.lit (.bool true)], args := [d1, d2, d3] }
  | _ => none }
def fnExactLoopErrorRow : OpenClaim := { program := "ytpjddmfcikelcaa", sum := "315af83c8b9a0e3a5382b308ea1c86111b3bbcb3fcaa61a1ffc31bd31cbcf53e", func := "loop.example/g00810/laws.FnExactLoopError", spec := "fnExactLoopError", apart := false }
def FnExactLoopErrorSaid : Prop := fnExactLoopErrorRow.holds Try.pinned (OpenSpec.ofChange fnExactLoopErrorSpec)

/-- ITS FALSE NEIGHBOUR: 'it returns false'. Refute it at one input. -/
def fnExactLoopErrorWrong : ChangeSpec := { name := "fnExactLoopError", fn := fun _ => fun
  | [d1, d2, d3] => { results := [.lit (.bool false)], args := [d1, d2, d3] }
  | _ => none }
def FnExactLoopErrorWrongFalsely : Prop := fnExactLoopErrorRow.holds Try.pinned (OpenSpec.ofChange fnExactLoopErrorWrong)

/-- 'laws.FnPairs': WHATEVER THE INPUT: true; the input reads as it did. -/
def fnPairsSpec : ChangeSpec := { name := "fnPairs", fn := fun _ => fun
  | [d] => { results := [.lit (.bool true)], args := [d] }
  | _ => none }
def fnPairsRow : OpenClaim := { program := "ytpjddmfcikelcaa", sum := "315af83c8b9a0e3a5382b308ea1c86111b3bbcb3fcaa61a1ffc31bd31cbcf53e", func := "loop.example/g00810/laws.FnPairs", spec := "fnPairs", recurses := true, apart := false }
def FnPairsSaid : Prop := fnPairsRow.holds Try.pinned (OpenSpec.ofChange fnPairsSpec)

/-- ITS FALSE NEIGHBOUR: 'it returns false'. Refute it at one input. -/
def fnPairsWrong : ChangeSpec := { name := "fnPairs", fn := fun _ => fun
  | [d] => { results := [.lit (.bool false)], args := [d] }
  | _ => none }
def FnPairsWrongFalsely : Prop := fnPairsRow.holds Try.pinned (OpenSpec.ofChange fnPairsWrong)

/-- 'laws.FnExactLoopDistance': WHATEVER THE INPUT: true; the input reads as it did. -/
def fnExactLoopDistanceSpec : ChangeSpec := { name := "fnExactLoopDistance", fn := fun _ => fun
  | [d1, d2, d3] => { results := [.lit (.bool true)], args := [d1, d2, d3] }
  | _ => none }
def fnExactLoopDistanceRow : OpenClaim := { program := "ytpjddmfcikelcaa", sum := "315af83c8b9a0e3a5382b308ea1c86111b3bbcb3fcaa61a1ffc31bd31cbcf53e", func := "loop.example/g00810/laws.FnExactLoopDistance", spec := "fnExactLoopDistance", apart := false }
def FnExactLoopDistanceSaid : Prop := fnExactLoopDistanceRow.holds Try.pinned (OpenSpec.ofChange fnExactLoopDistanceSpec)

/-- ITS FALSE NEIGHBOUR: 'it returns false'. Refute it at one input. -/
def fnExactLoopDistanceWrong : ChangeSpec := { name := "fnExactLoopDistance", fn := fun _ => fun
  | [d1, d2, d3] => { results := [.lit (.bool false)], args := [d1, d2, d3] }
  | _ => none }
def FnExactLoopDistanceWrongFalsely : Prop := fnExactLoopDistanceRow.holds Try.pinned (OpenSpec.ofChange fnExactLoopDistanceWrong)

/- THE SECOND FORM. 'bulk': how many values and letters a reading holds, each counted each time it is reached (what is shared counts as often as it is met; a slice's spare places count too). A statement '..UptoSaid' is the law's where the arguments, and the package variables that the reading takes, are together of bulk at most 1048576: NARROWER than '..Said'. Prove '..Said' where nothing that the law and all that it calls make is longer than what came in: it says more and counts as full. Else prove '..UptoSaid'. A law counts once. -/
mutual
def uptoBulk {H : Type} : DataW H → Nat
  | .lit (.string bytes) => bytes.length + 1
  | .lit _ => 1
  | .nil => 1
  | .ptr d => uptoBulk d + 1
  | .slice elems spare => uptoBulkAll elems + uptoBulkAll spare + 1
  | .agg parts => uptoBulkAll parts + 1
  | .iface _ d => uptoBulk d + 1
  | .map entries => uptoBulkEntries entries + 1
  | .held _ => 1
def uptoBulkAll {H : Type} : List (DataW H) → Nat
  | [] => 0
  | d :: r => uptoBulk d + uptoBulkAll r
def uptoBulkEntries {H : Type} : List (Lit × DataW H) → Nat
  | [] => 0
  | x :: r => uptoBulkEntry x + uptoBulkEntries r
def uptoBulkEntry {H : Type} : Lit × DataW H → Nat
  | (.string bytes, d) => bytes.length + uptoBulk d + 1
  | (_, d) => uptoBulk d + 1
 end
def uptoSmall : (H : Type) → List (DataW H) → Bool := fun _ ds => decide (uptoBulkAll ds ≤ 1048576)
def OpenSpec.upto (s : _root_.Go.ChangeSpec) : _root_.Go.OpenSpec := { _root_.Go.OpenSpec.ofChange s with cond := some uptoSmall }

/-- 'laws.FnClique', WHERE WHAT IT READS IS OF BULK AT MOST 1048576: true; the input reads as it did. -/
def fnCliqueUptoRow : OpenClaim := { program := "ytpjddmfcikelcaa", sum := "315af83c8b9a0e3a5382b308ea1c86111b3bbcb3fcaa61a1ffc31bd31cbcf53e", func := "loop.example/g00810/laws.FnClique", spec := "fnClique", apart := false, narrowed := true }
def FnCliqueUptoSaid : Prop := fnCliqueUptoRow.holds Try.pinned (OpenSpec.upto fnCliqueSpec)

/-- 'laws.FnExactGreedyColors', WHERE WHAT IT READS IS OF BULK AT MOST 1048576: true; the input reads as it did. -/
def fnExactGreedyColorsUptoRow : OpenClaim := { program := "ytpjddmfcikelcaa", sum := "315af83c8b9a0e3a5382b308ea1c86111b3bbcb3fcaa61a1ffc31bd31cbcf53e", func := "loop.example/g00810/laws.FnExactGreedyColors", spec := "fnExactGreedyColors", apart := false, narrowed := true }
def FnExactGreedyColorsUptoSaid : Prop := fnExactGreedyColorsUptoRow.holds Try.pinned (OpenSpec.upto fnExactGreedyColorsSpec)

/-- 'laws.FnExactCountMaximalCliques', WHERE WHAT IT READS IS OF BULK AT MOST 1048576: true; the input reads as it did. -/
def fnExactCountMaximalCliquesUptoRow : OpenClaim := { program := "ytpjddmfcikelcaa", sum := "315af83c8b9a0e3a5382b308ea1c86111b3bbcb3fcaa61a1ffc31bd31cbcf53e", func := "loop.example/g00810/laws.FnExactCountMaximalCliques", spec := "fnExactCountMaximalCliques", recurses := true, apart := false, narrowed := true }
def FnExactCountMaximalCliquesUptoSaid : Prop := fnExactCountMaximalCliquesUptoRow.holds Try.pinned (OpenSpec.upto fnExactCountMaximalCliquesSpec)

/-- 'laws.FnExactMaxClique', WHERE WHAT IT READS IS OF BULK AT MOST 1048576: true; the input reads as it did. -/
def fnExactMaxCliqueUptoRow : OpenClaim := { program := "ytpjddmfcikelcaa", sum := "315af83c8b9a0e3a5382b308ea1c86111b3bbcb3fcaa61a1ffc31bd31cbcf53e", func := "loop.example/g00810/laws.FnExactMaxClique", spec := "fnExactMaxClique", recurses := true, apart := false, narrowed := true }
def FnExactMaxCliqueUptoSaid : Prop := fnExactMaxCliqueUptoRow.holds Try.pinned (OpenSpec.upto fnExactMaxCliqueSpec)

/-- 'laws.FnExactOtherLoops', WHERE WHAT IT READS IS OF BULK AT MOST 1048576: true; the input reads as it did. -/
def fnExactOtherLoopsUptoRow : OpenClaim := { program := "ytpjddmfcikelcaa", sum := "315af83c8b9a0e3a5382b308ea1c86111b3bbcb3fcaa61a1ffc31bd31cbcf53e", func := "loop.example/g00810/laws.FnExactOtherLoops", spec := "fnExactOtherLoops", apart := false, narrowed := true }
def FnExactOtherLoopsUptoSaid : Prop := fnExactOtherLoopsUptoRow.holds Try.pinned (OpenSpec.upto fnExactOtherLoopsSpec)

/-- 'laws.FnExactExtendsClique', WHERE WHAT IT READS IS OF BULK AT MOST 1048576: true; the input reads as it did. -/
def fnExactExtendsCliqueUptoRow : OpenClaim := { program := "ytpjddmfcikelcaa", sum := "315af83c8b9a0e3a5382b308ea1c86111b3bbcb3fcaa61a1ffc31bd31cbcf53e", func := "loop.example/g00810/laws.FnExactExtendsClique", spec := "fnExactExtendsClique", apart := false, narrowed := true }
def FnExactExtendsCliqueUptoSaid : Prop := fnExactExtendsCliqueUptoRow.holds Try.pinned (OpenSpec.upto fnExactExtendsCliqueSpec)

/-- 'laws.FnExactLoopOf', WHERE WHAT IT READS IS OF BULK AT MOST 1048576: true; the input reads as it did. -/
def fnExactLoopOfUptoRow : OpenClaim := { program := "ytpjddmfcikelcaa", sum := "315af83c8b9a0e3a5382b308ea1c86111b3bbcb3fcaa61a1ffc31bd31cbcf53e", func := "loop.example/g00810/laws.FnExactLoopOf", spec := "fnExactLoopOf", apart := false, narrowed := true }
def FnExactLoopOfUptoSaid : Prop := fnExactLoopOfUptoRow.holds Try.pinned (OpenSpec.upto fnExactLoopOfSpec)

/-- 'laws.FnExactLoopOffset', WHERE WHAT IT READS IS OF BULK AT MOST 1048576: true; the input reads as it did. -/
def fnExactLoopOffsetUptoRow : OpenClaim := { program := "ytpjddmfcikelcaa", sum := "315af83c8b9a0e3a5382b308ea1c86111b3bbcb3fcaa61a1ffc31bd31cbcf53e", func := "loop.example/g00810/laws.FnExactLoopOffset", spec := "fnExactLoopOffset", apart := false, narrowed := true }
def FnExactLoopOffsetUptoSaid : Prop := fnExactLoopOffsetUptoRow.holds Try.pinned (OpenSpec.upto fnExactLoopOffsetSpec)

/-- 'laws.FnExactLoopError', WHERE WHAT IT READS IS OF BULK AT MOST 1048576: true; the input reads as it did. -/
def fnExactLoopErrorUptoRow : OpenClaim := { program := "ytpjddmfcikelcaa", sum := "315af83c8b9a0e3a5382b308ea1c86111b3bbcb3fcaa61a1ffc31bd31cbcf53e", func := "loop.example/g00810/laws.FnExactLoopError", spec := "fnExactLoopError", apart := false, narrowed := true }
def FnExactLoopErrorUptoSaid : Prop := fnExactLoopErrorUptoRow.holds Try.pinned (OpenSpec.upto fnExactLoopErrorSpec)

/-- 'laws.FnPairs', WHERE WHAT IT READS IS OF BULK AT MOST 1048576: true; the input reads as it did. -/
def fnPairsUptoRow : OpenClaim := { program := "ytpjddmfcikelcaa", sum := "315af83c8b9a0e3a5382b308ea1c86111b3bbcb3fcaa61a1ffc31bd31cbcf53e", func := "loop.example/g00810/laws.FnPairs", spec := "fnPairs", recurses := true, apart := false, narrowed := true }
def FnPairsUptoSaid : Prop := fnPairsUptoRow.holds Try.pinned (OpenSpec.upto fnPairsSpec)

/-- 'laws.FnExactLoopDistance', WHERE WHAT IT READS IS OF BULK AT MOST 1048576: true; the input reads as it did. -/
def fnExactLoopDistanceUptoRow : OpenClaim := { program := "ytpjddmfcikelcaa", sum := "315af83c8b9a0e3a5382b308ea1c86111b3bbcb3fcaa61a1ffc31bd31cbcf53e", func := "loop.example/g00810/laws.FnExactLoopDistance", spec := "fnExactLoopDistance", apart := false, narrowed := true }
def FnExactLoopDistanceUptoSaid : Prop := fnExactLoopDistanceUptoRow.holds Try.pinned (OpenSpec.upto fnExactLoopDistanceSpec)

end Rows
end Go.Proofs.Ytpjddmfcikelcaa
