/- The seat's program under the evaluator. Conditions: none; definitions alone. -/
import Derived.Test.YtilbmpdeginabaaFw25
import Derived.Test.YtilbmpdeginabaaChecked
namespace Go.Proofs.YtilbmpdeginabaaFw
open Go
def hint : Hint := { inl := fun f => Nat.beq f 29 || Nat.beq f 40 || Nat.beq f 41 || Nat.beq f 44 || Nat.beq f 51 || Nat.beq f 52 || Nat.beq f 55, thaw := fun f t => bif Nat.beq f 8 && (Nat.beq t 20 || Nat.beq t 22) then 6 else 0 }
noncomputable abbrev F : Nat → Option IFn := compFn Try.prog hint
noncomputable def L : Sys := lim F
end Go.Proofs.YtilbmpdeginabaaFw
