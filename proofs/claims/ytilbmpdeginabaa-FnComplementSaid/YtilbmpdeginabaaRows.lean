/-
  No cell of these rows narrows 'for every input' (looked for: loops, veiled, ifaces, maps, wideKeys, modest, calm, conditions, laid).
  DERIVED. THE GIVEN ROWS OF THIS SEAT. 6 by the template 'for every input the law returns true; each argument reads behind the call as it read before'; 0 by the template 'total and deterministic' (their statements: YtilbmpdeginabaaTotals.lean).
  GIVEN WITH THE SEED: the statements are not yours to turn. If you find one false, say at which input.
  Laid BY PROGRAM, IN A SANDBOX (cutbox-rows.mjs): the forced cells as the released guide's own fill.sh prints them over the translation 3a86f6055ed8aaff… (all of the seat's roots in one cut). By AI agents, Wed Nov 11 2026. No macro, syntax, notation, axiom, sorry.
-/
import Derived.Test.YtilbmpdeginabaaChecked
import GoSem.Claim
import GoSem.ClaimJoined
import GoSem.ClaimMapViews
import Derived.JoinedTies
import Derived.KernelRfl
namespace Go.Proofs.Ytilbmpdeginabaa
/- THE CELL 'sum', in the pinned program and in every row, IS THE sha256 OF THE DUMP (.gsa) THAT YtilbmpdeginabaaProg.lean LOADS. Nothing in Lean hashes anything: it is a label: what it is worth is what the hold of that sum in a sandbox is worth. -/
noncomputable def Try.pinned : Pinned := { name := "ytilbmpdeginabaa", sum := "3a86f6055ed8aaff2a2f788870cec0c57bbc55e44dd415edc5ca6b4c2b39feff", checked := Try.checked }
namespace Rows
def none {H : Type} : Left H := { results := [], args := [] }

/-- 'laws.FnExactIsValidObservation': WHATEVER THE INPUT: true; the input reads as it did. -/
def fnExactIsValidObservationSpec : ChangeSpec := { name := "fnExactIsValidObservation", fn := fun _ => fun
  | [d] => { results := [.lit (.bool true)], args := [d] }
  | _ => none }
def fnExactIsValidObservationRow : OpenClaim := { program := "ytilbmpdeginabaa", sum := "3a86f6055ed8aaff2a2f788870cec0c57bbc55e44dd415edc5ca6b4c2b39feff", func := "loop.example/g00810/laws.FnExactIsValidObservation", spec := "fnExactIsValidObservation", apart := false }
def FnExactIsValidObservationSaid : Prop := fnExactIsValidObservationRow.holds Try.pinned (OpenSpec.ofChange fnExactIsValidObservationSpec)

/-- ITS FALSE NEIGHBOUR: 'it returns false'. Refute it at one input. -/
def fnExactIsValidObservationWrong : ChangeSpec := { name := "fnExactIsValidObservation", fn := fun _ => fun
  | [d] => { results := [.lit (.bool false)], args := [d] }
  | _ => none }
def FnExactIsValidObservationWrongFalsely : Prop := fnExactIsValidObservationRow.holds Try.pinned (OpenSpec.ofChange fnExactIsValidObservationWrong)

/-- 'laws.FnExactIsGraph': WHATEVER THE INPUT: true; the input reads as it did. -/
def fnExactIsGraphSpec : ChangeSpec := { name := "fnExactIsGraph", fn := fun _ => fun
  | [d] => { results := [.lit (.bool true)], args := [d] }
  | _ => none }
def fnExactIsGraphRow : OpenClaim := { program := "ytilbmpdeginabaa", sum := "3a86f6055ed8aaff2a2f788870cec0c57bbc55e44dd415edc5ca6b4c2b39feff", func := "loop.example/g00810/laws.FnExactIsGraph", spec := "fnExactIsGraph", apart := false }
def FnExactIsGraphSaid : Prop := fnExactIsGraphRow.holds Try.pinned (OpenSpec.ofChange fnExactIsGraphSpec)

/-- ITS FALSE NEIGHBOUR: 'it returns false'. Refute it at one input. -/
def fnExactIsGraphWrong : ChangeSpec := { name := "fnExactIsGraph", fn := fun _ => fun
  | [d] => { results := [.lit (.bool false)], args := [d] }
  | _ => none }
def FnExactIsGraphWrongFalsely : Prop := fnExactIsGraphRow.holds Try.pinned (OpenSpec.ofChange fnExactIsGraphWrong)

/-- 'laws.FnExactObservationFactor': WHATEVER THE INPUT: true; the input reads as it did. -/
def fnExactObservationFactorSpec : ChangeSpec := { name := "fnExactObservationFactor", fn := fun _ => fun
  | [d1, d2, d3, d4] => { results := [.lit (.bool true)], args := [d1, d2, d3, d4] }
  | _ => none }
def fnExactObservationFactorRow : OpenClaim := { program := "ytilbmpdeginabaa", sum := "3a86f6055ed8aaff2a2f788870cec0c57bbc55e44dd415edc5ca6b4c2b39feff", func := "loop.example/g00810/laws.FnExactObservationFactor", spec := "fnExactObservationFactor", apart := false }
def FnExactObservationFactorSaid : Prop := fnExactObservationFactorRow.holds Try.pinned (OpenSpec.ofChange fnExactObservationFactorSpec)

/-- ITS FALSE NEIGHBOUR: 'it returns false'. Refute it at one input. -/
def fnExactObservationFactorWrong : ChangeSpec := { name := "fnExactObservationFactor", fn := fun _ => fun
  | [d1, d2, d3, d4] => { results := [.lit (.bool false)], args := [d1, d2, d3, d4] }
  | _ => none }
def FnExactObservationFactorWrongFalsely : Prop := fnExactObservationFactorRow.holds Try.pinned (OpenSpec.ofChange fnExactObservationFactorWrong)

/-- 'laws.FnComplement': WHATEVER THE INPUT: true; the input reads as it did. -/
def fnComplementSpec : ChangeSpec := { name := "fnComplement", fn := fun _ => fun
  | [d] => { results := [.lit (.bool true)], args := [d] }
  | _ => none }
def fnComplementRow : OpenClaim := { program := "ytilbmpdeginabaa", sum := "3a86f6055ed8aaff2a2f788870cec0c57bbc55e44dd415edc5ca6b4c2b39feff", func := "loop.example/g00810/laws.FnComplement", spec := "fnComplement", apart := false }
def FnComplementSaid : Prop := fnComplementRow.holds Try.pinned (OpenSpec.ofChange fnComplementSpec)

/-- ITS FALSE NEIGHBOUR: 'it returns false'. Refute it at one input. -/
def fnComplementWrong : ChangeSpec := { name := "fnComplement", fn := fun _ => fun
  | [d] => { results := [.lit (.bool false)], args := [d] }
  | _ => none }
def FnComplementWrongFalsely : Prop := fnComplementRow.holds Try.pinned (OpenSpec.ofChange fnComplementWrong)

/-- 'laws.FnExactIsClique': WHATEVER THE INPUT: true; the input reads as it did. -/
def fnExactIsCliqueSpec : ChangeSpec := { name := "fnExactIsClique", fn := fun _ => fun
  | [d1, d2] => { results := [.lit (.bool true)], args := [d1, d2] }
  | _ => none }
def fnExactIsCliqueRow : OpenClaim := { program := "ytilbmpdeginabaa", sum := "3a86f6055ed8aaff2a2f788870cec0c57bbc55e44dd415edc5ca6b4c2b39feff", func := "loop.example/g00810/laws.FnExactIsClique", spec := "fnExactIsClique", apart := false }
def FnExactIsCliqueSaid : Prop := fnExactIsCliqueRow.holds Try.pinned (OpenSpec.ofChange fnExactIsCliqueSpec)

/-- ITS FALSE NEIGHBOUR: 'it returns false'. Refute it at one input. -/
def fnExactIsCliqueWrong : ChangeSpec := { name := "fnExactIsClique", fn := fun _ => fun
  | [d1, d2] => { results := [.lit (.bool false)], args := [d1, d2] }
  | _ => none }
def FnExactIsCliqueWrongFalsely : Prop := fnExactIsCliqueRow.holds Try.pinned (OpenSpec.ofChange fnExactIsCliqueWrong)

/-- 'laws.FnExactComplementGraph': WHATEVER THE INPUT: true; the input reads as it did. -/
def fnExactComplementGraphSpec : ChangeSpec := { name := "fnExactComplementGraph", fn := fun _ => fun
  | [d] => { results := [.lit (.bool true)], args := [d] }
  | _ => none }
def fnExactComplementGraphRow : OpenClaim := { program := "ytilbmpdeginabaa", sum := "3a86f6055ed8aaff2a2f788870cec0c57bbc55e44dd415edc5ca6b4c2b39feff", func := "loop.example/g00810/laws.FnExactComplementGraph", spec := "fnExactComplementGraph", apart := false }
def FnExactComplementGraphSaid : Prop := fnExactComplementGraphRow.holds Try.pinned (OpenSpec.ofChange fnExactComplementGraphSpec)

/-- ITS FALSE NEIGHBOUR: 'it returns false'. Refute it at one input. -/
def fnExactComplementGraphWrong : ChangeSpec := { name := "fnExactComplementGraph", fn := fun _ => fun
  | [d] => { results := [.lit (.bool false)], args := [d] }
  | _ => none }
def FnExactComplementGraphWrongFalsely : Prop := fnExactComplementGraphRow.holds Try.pinned (OpenSpec.ofChange fnExactComplementGraphWrong)

/- THE SECOND FORM. 'bulk': how many values and letters a reading holds, each counted each time it is reached (what is shared counts as often as it is met; a slice's spare places count too). A statement '..UptoSaid' is the law's where the arguments, and the package variables that the reading takes, are together of bulk at most 1048576: NARROWER than '..Said'. Prove '..Said' where nothing that the law and all that it calls make is longer than what came in: it says more and counts as full. Else prove '..UptoSaid'. A law counts once. -/
mutual
def uptoBulk {H : Type} : DataW H → Nat
  | .lit (.string bytes) => bytes.length + 1
  | .lit _ => 1
  | .nil => 1
  | .ptr d => uptoBulk d + 1
  | .slice elems spare => uptoBulkAll elems + uptoBulkAll spare + 1
  | .agg parts => uptoBulkAll parts + 1
  | .iface _ d => uptoBulk d + 1
  | .map entries => uptoBulkEntries entries + 1
  | .held _ => 1
def uptoBulkAll {H : Type} : List (DataW H) → Nat
  | [] => 0
  | d :: r => uptoBulk d + uptoBulkAll r
def uptoBulkEntries {H : Type} : List (Lit × DataW H) → Nat
  | [] => 0
  | x :: r => uptoBulkEntry x + uptoBulkEntries r
def uptoBulkEntry {H : Type} : Lit × DataW H → Nat
  | (.string bytes, d) => bytes.length + uptoBulk d + 1
  | (_, d) => uptoBulk d + 1
 end
def uptoSmall : (H : Type) → List (DataW H) → Bool := fun _ ds => decide (uptoBulkAll ds ≤ 1048576)
def OpenSpec.upto (s : _root_.Go.ChangeSpec) : _root_.Go.OpenSpec := { _root_.Go.OpenSpec.ofChange s with cond := some uptoSmall }

/-- 'laws.FnExactIsValidObservation', WHERE WHAT IT READS IS OF BULK AT MOST 1048576: true; the input reads as it did. -/
def fnExactIsValidObservationUptoRow : OpenClaim := { program := "ytilbmpdeginabaa", sum := "3a86f6055ed8aaff2a2f788870cec0c57bbc55e44dd415edc5ca6b4c2b39feff", func := "loop.example/g00810/laws.FnExactIsValidObservation", spec := "fnExactIsValidObservation", apart := false, narrowed := true }
def FnExactIsValidObservationUptoSaid : Prop := fnExactIsValidObservationUptoRow.holds Try.pinned (OpenSpec.upto fnExactIsValidObservationSpec)

/-- 'laws.FnExactIsGraph', WHERE WHAT IT READS IS OF BULK AT MOST 1048576: true; the input reads as it did. -/
def fnExactIsGraphUptoRow : OpenClaim := { program := "ytilbmpdeginabaa", sum := "3a86f6055ed8aaff2a2f788870cec0c57bbc55e44dd415edc5ca6b4c2b39feff", func := "loop.example/g00810/laws.FnExactIsGraph", spec := "fnExactIsGraph", apart := false, narrowed := true }
def FnExactIsGraphUptoSaid : Prop := fnExactIsGraphUptoRow.holds Try.pinned (OpenSpec.upto fnExactIsGraphSpec)

/-- 'laws.FnExactObservationFactor', WHERE WHAT IT READS IS OF BULK AT MOST 1048576: true; the input reads as it did. -/
def fnExactObservationFactorUptoRow : OpenClaim := { program := "ytilbmpdeginabaa", sum := "3a86f6055ed8aaff2a2f788870cec0c57bbc55e44dd415edc5ca6b4c2b39feff", func := "loop.example/g00810/laws.FnExactObservationFactor", spec := "fnExactObservationFactor", apart := false, narrowed := true }
def FnExactObservationFactorUptoSaid : Prop := fnExactObservationFactorUptoRow.holds Try.pinned (OpenSpec.upto fnExactObservationFactorSpec)

/-- 'laws.FnComplement', WHERE WHAT IT READS IS OF BULK AT MOST 1048576: true; the input reads as it did. -/
def fnComplementUptoRow : OpenClaim := { program := "ytilbmpdeginabaa", sum := "3a86f6055ed8aaff2a2f788870cec0c57bbc55e44dd415edc5ca6b4c2b39feff", func := "loop.example/g00810/laws.FnComplement", spec := "fnComplement", apart := false, narrowed := true }
def FnComplementUptoSaid : Prop := fnComplementUptoRow.holds Try.pinned (OpenSpec.upto fnComplementSpec)

/-- 'laws.FnExactIsClique', WHERE WHAT IT READS IS OF BULK AT MOST 1048576: true; the input reads as it did. -/
def fnExactIsCliqueUptoRow : OpenClaim := { program := "ytilbmpdeginabaa", sum := "3a86f6055ed8aaff2a2f788870cec0c57bbc55e44dd415edc5ca6b4c2b39feff", func := "loop.example/g00810/laws.FnExactIsClique", spec := "fnExactIsClique", apart := false, narrowed := true }
def FnExactIsCliqueUptoSaid : Prop := fnExactIsCliqueUptoRow.holds Try.pinned (OpenSpec.upto fnExactIsCliqueSpec)

/-- 'laws.FnExactComplementGraph', WHERE WHAT IT READS IS OF BULK AT MOST 1048576: true; the input reads as it did. -/
def fnExactComplementGraphUptoRow : OpenClaim := { program := "ytilbmpdeginabaa", sum := "3a86f6055ed8aaff2a2f788870cec0c57bbc55e44dd415edc5ca6b4c2b39feff", func := "loop.example/g00810/laws.FnExactComplementGraph", spec := "fnExactComplementGraph", apart := false, narrowed := true }
def FnExactComplementGraphUptoSaid : Prop := fnExactComplementGraphUptoRow.holds Try.pinned (OpenSpec.upto fnExactComplementGraphSpec)

end Rows
end Go.Proofs.Ytilbmpdeginabaa
