/- The seat's program under the evaluator. Conditions: none; definitions alone. -/
import Derived.Test.YtpjddmfcikelcaaFw25
import Derived.Test.YtpjddmfcikelcaaChecked
namespace Go.Proofs.YtpjddmfcikelcaaFw
open Go
def hint : Hint := { inl := fun f => Nat.beq f 25 || Nat.beq f 26 || Nat.beq f 36 || Nat.beq f 53 || Nat.beq f 54 || Nat.beq f 63 || Nat.beq f 83 || Nat.beq f 89 || Nat.beq f 90 || Nat.beq f 103 || Nat.beq f 109 || Nat.beq f 113 || Nat.beq f 115, thaw := fun f t => bif Nat.beq f 4 && (Nat.beq t 20 || Nat.beq t 22) then 6 else bif Nat.beq f 6 && (Nat.beq t 20 || Nat.beq t 22) then 6 else bif Nat.beq f 7 && (Nat.beq t 28 || Nat.beq t 30 || Nat.beq t 33) then 6 else bif Nat.beq f 8 && (Nat.beq t 28 || Nat.beq t 30 || Nat.beq t 33) then 6 else 0 }
noncomputable abbrev F : Nat → Option IFn := compFn Try.prog hint
noncomputable def L : Sys := lim F
end Go.Proofs.YtpjddmfcikelcaaFw
