/- The seat's program under the evaluator. Conditions: none; definitions alone. -/
import Derived.Test.YtbomeeiaeohbpaaFw25
import Derived.Test.YtbomeeiaeohbpaaChecked
namespace Go.Proofs.YtbomeeiaeohbpaaFw
open Go
def hint : Hint := { inl := fun f => Nat.beq f 17 || Nat.beq f 18 || Nat.beq f 32 || Nat.beq f 44 || Nat.beq f 107 || Nat.beq f 114, thaw := fun f t => bif Nat.beq f 4 && (Nat.beq t 23 || Nat.beq t 26) then 6 else bif Nat.beq f 8 && (Nat.beq t 23 || Nat.beq t 26) then 6 else 0 }
noncomputable abbrev F : Nat → Option IFn := compFn Try.prog hint
noncomputable def L : Sys := lim F
end Go.Proofs.YtbomeeiaeohbpaaFw
