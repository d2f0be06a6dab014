/- The words of the printed equations. Conditions: none; definitions alone. -/
import Derived.Test.YtilbmpdeginabaaFw20
namespace Go.Proofs.YtilbmpdeginabaaFw
open Go

def st0 (n : Nat) : St := { H := fun _ => none, m := 0, n := n }

def loops : ICode → List ICode
  | .loop _ _ c => c :: loops c
  | .seq a b => loops a ++ loops b
  | .cond _ a b => loops a ++ loops b
  | .block _ c => loops c
  | _ => []

def loopAt (c : ICode) (i : Nat) : ICode := ((loops c)[i]?).getD .bad

section
variable {α : Type}

def resK (R : Sys) : ICode → List Bool → (XT → Fr → St → Option α) → XT × List AV × St → Option α
  | .loop _ out _, _, K => fun r => K r.1 (ofKeep out r.2.1) r.2.2
  | .seq a b, false :: p, K => resK R a p fun x A st => seqX x A st (fun A st => runK R b A st K) K
  | .seq _ b, true :: p, K => resK R b p K
  | .cond _ x _, false :: p, K => resK R x p K
  | .cond _ _ y, true :: p, K => resK R y p K
  | .block id c, p, K => resK R c p fun x A st => blkX id x A st K
  | _, _, _ => fun _ => none

def callK (rs : List RV) : XT → Fr → St → Option (AV × Nat) := fun x A st =>
  match x with
  | .exit _ => none
  | _ => (rvs A st rs).bind fun vs => (resTup st (retV vs)).bind fun v => some (v, st.n)

def inlK (rs : List RV) : XT → Fr → St → Option (AV × St) := fun x A st =>
  match x with
  | .exit _ => none
  | _ => (rvs A st rs).bind fun vs => some (retV vs, st)

def loopK (R : Sys) (keep out : List Nat) (c : ICode) : XT → Fr → St → Option (XT × List AV × St) := fun x A st =>
  match x with
  | .normal => R.loop keep out c (keep.map A) st
  | x => some (x, out.map A, st)

def mkBuild : List (Nat × Nat × AV) → List AV → Option (List AV)
  | [], cs => some cs
  | (off, s, x) :: r, cs => if x.stor = true ∧ x.cells.length = s ∧ off + s ≤ cs.length then mkBuild r (splice off x.cells cs) else none

def mkSlice (s : Nat) : List (Nat × AV) → List AV → Option (List AV)
  | [], es => some es
  | (i, x) :: r, es => if x.stor = true ∧ x.cells.length = s ∧ i < es.length then mkSlice s r (es.set i x) else none

def mkMake (s : Nat) (z l c : AV) (st : St) (K : AV → St → Option α) : Option α :=
  match l, c with
  | .int .i64 l, .int .i64 c => if 0 ≤ l ∧ l ≤ c ∧ c ≤ maxNeed ∧ z.stor = true ∧ z.cells.length = s ∧ s ≠ 0 then K (.lsl st.m st.n s 0 l.toNat) (st.new s (List.replicate l.toNat z)) else none
  | _, _ => none

def mkNew (e : AV) (st : St) (K : AV → St → Option α) : Option α :=
  if e.stor = true ∧ e.cells.length ≠ 0 then K (.ptr st.m st.n 0 0) (st.new e.cells.length [e]) else none

def mkLit (len s : Nat) (z : AV) (ps : List (Nat × AV)) (st : St) (K : AV → St → Option α) : Option α :=
  if z.stor = true ∧ z.cells.length = s ∧ s ≠ 0 then (mkSlice s ps (List.replicate len z)).bind fun es => K (.lsl st.m st.n s 0 len) (st.new s es) else none

def mkAppn (s : Nat) (x y : AV) (st : St) (K : AV → St → Option α) : Option α :=
  match x with
  | .nils => (aApp s .nils y st).bind fun r => K r.1 r.2
  | _ => none
end
end Go.Proofs.YtilbmpdeginabaaFw
