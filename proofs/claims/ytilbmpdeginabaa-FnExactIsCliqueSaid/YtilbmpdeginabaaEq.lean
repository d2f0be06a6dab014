/- The seat's program under the evaluator. Conditions: none; definitions alone. -/
import Derived.Test.YtilbmpdeginabaaFw22
import Derived.Test.YtilbmpdeginabaaChecked
namespace Go.Proofs.YtilbmpdeginabaaFw
open Go
def hint : Hint := { inl := fun _ => false, thaw := fun _ _ => 0 }
noncomputable abbrev F : Nat → Option IFn := compFn Try.prog hint
noncomputable def L : Sys := lim F
end Go.Proofs.YtilbmpdeginabaaFw
