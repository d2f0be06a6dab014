/- The evaluator: abstract values, the operations' meaning on them, the structured code, its run. Conditions: none; definitions alone. -/
import Derived.Calls
import Derived.Orders
import Derived.KernelRfl
import Derived.Below
import Derived.Laws.World
namespace Go.Proofs.YtilbmpdeginabaaFw
open Go

inductive AV where
  | undef
  | bool (b : Bool)
  | int (k : IntKind) (n : Int)
  | str (s : ByteArray)
  | nilp
  | nils
  | ptr (j t i f : Nat)
  | eptr (cs : List AV)
  | lsl (j t s off len : Nat)
  | sl (t off s : Nat) (es : List AV)
  | agg (cs : List AV)
  | tup (vs : List AV)
  deriving Inhabited

def AV.cells : AV → List AV
  | .agg cs => cs
  | v => [v]

/-- a value of one cell, known -/
def AV.one : AV → Bool
  | .bool _ | .int .. | .str _ | .nilp | .nils | .ptr .. | .eptr _ | .lsl .. | .sl .. => true
  | _ => false

/-- known, and storable -/
def AV.stor : AV → Bool
  | .agg cs => cs.all AV.one
  | v => v.one

inductive Opd where
  | t (i : Nat)
  | c (v : AV)
  deriving Inhabited

structure LArr where
  tag : Nat
  s : Nat
  es : List AV

structure St where
  H : Nat → Option LArr
  m : Nat
  n : Nat

def St.put (st : St) (j : Nat) (a : LArr) : St := { st with H := fun i => bif Nat.beq i j then some a else st.H i }
/-- a new array: its number is m, its tag n -/
def St.new (st : St) (s : Nat) (es : List AV) : St :=
  { H := fun i => bif Nat.beq i st.m then some { tag := st.n, s := s, es := es } else st.H i, m := st.m + 1, n := st.n + 1 }

def St.get (st : St) (j t : Nat) : Option LArr :=
  match st.H j with
  | some a => if a.tag = t then some a else none
  | none => none

inductive AOp where
  | bad
  | mv (x : Opd)
  | pick (c a b : Opd)
  | alloc (e : AV)
  | box (x : Opd)
  | build (zero : List AV) (parts : List (Nat × Nat × Opd))
  | bslice (len s : Nat) (zero : AV) (parts : List (Nat × Opd))
  | load (agg : Bool) (s : Nat) (x : Opd)
  | store (s : Nat) (x v : Opd)
  | nilchk (x : Opd)
  | bin (op : BinOp) (x y : Opd)
  | binb (op : BinOp) (x y : Opd)
  | un (op : UnOp) (x : Opd)
  | conv (k : IntKind) (x : Opd)
  | mkslice (s : Nat) (zero : AV) (l c : Opd)
  | slc (s : Nat) (x : Opd) (lo hi : Option Opd)
  | sslc (x : Opd) (lo hi : Option Opd)
  | faddr (off : Nat) (x : Opd)
  | field (agg : Bool) (off s : Nat) (x : Opd)
  | iaddr (s : Nat) (x i : Opd)
  | aidx (len s : Nat) (x i : Opd)
  | vidx (agg : Bool) (len s : Nat) (x i : Opd)
  | sidx (x i : Opd)
  | extr (x : Opd) (i : Nat)
  | call (f : Nat) (args : List Opd) (inl : Bool) (thaw : Nat)
  | len (x : Opd)
  | slen (x : Opd)
  | app (s : Nat) (x y : Opd)
  | appn (s : Nat) (x y : Opd)
  | mx (x y : Opd)
  | mn (x y : Opd)
  | b2s (x : Opd)
  deriving Inhabited

structure IOp where
  dst : Option Nat
  guard : Option (Nat × Bool)
  op : AOp
  deriving Inhabited

inductive ICode where
  | bad
  | skip
  | ops (l : List IOp)
  | seq (a b : ICode)
  | cond (c : Opd) (x y : ICode)
  | block (id : Nat) (c : ICode)
  | loop (keep out : List Nat) (c : ICode)
  | exit (id : Nat)
  | ret
  deriving Inhabited

/-! ### the operations -/

def maxNeed : Nat := 4294967296

def aPick : AV → AV → AV → Option AV
  | .bool b, x, y => some (if b then x else y)
  | _, _, _ => none

def ldCells (agg : Bool) (s : Nat) (cs : List AV) : Option AV :=
  bif agg then (if s ≤ cs.length then some (.agg (cs.take s)) else none) else cs.head?

def aLoad (agg : Bool) (s : Nat) (st : St) : AV → Option AV
  | .eptr cs => ldCells agg s cs
  | .ptr j t i f => (st.get j t).bind fun a => (a.es[i]?).bind fun e => ldCells agg s (e.cells.drop f)
  | _ => none

def splice (f : Nat) (vs : List AV) (cs : List AV) : List AV := cs.take f ++ vs ++ cs.drop (f + vs.length)

def setElem (f : Nat) (vs : List AV) : AV → Option AV
  | .agg cs => if f + vs.length ≤ cs.length then some (.agg (splice f vs cs)) else none
  | _ => match f, vs with
    | 0, [v] => some v
    | _, _ => none

def aStore (s : Nat) (x v : AV) (st : St) : Option St :=
  match x with
  | .ptr j t i f =>
    if v.stor = true ∧ v.cells.length = s then
      (st.get j t).bind fun a => (a.es[i]?).bind fun e => (setElem f v.cells e).bind fun e' => some (st.put j { a with es := a.es.set i e' })
    else none
  | _ => none

def aNilchk : AV → Option AV
  | .ptr j t i f => some (.ptr j t i f)
  | .eptr cs => some (.eptr cs)
  | _ => none

def iBin (op : BinOp) (k : IntKind) (x y : Int) : Option AV :=
  match op with
  | .add => some (.int k (k.wrap (x + y)))
  | .sub => some (.int k (k.wrap (x - y)))
  | .mul => some (.int k (k.wrap (x * y)))
  | .quo => if y = 0 then none else some (.int k (k.wrap (x.tdiv y)))
  | .rem => if y = 0 then none else some (.int k (x.tmod y))
  | .and => some (.int k (k.wrap (BitVec.ofInt k.bits x &&& BitVec.ofInt k.bits y).toNat))
  | .or => some (.int k (k.wrap (BitVec.ofInt k.bits x ||| BitVec.ofInt k.bits y).toNat))
  | .xor => some (.int k (k.wrap (BitVec.ofInt k.bits x ^^^ BitVec.ofInt k.bits y).toNat))
  | .andNot => some (.int k (k.wrap (BitVec.ofInt k.bits x &&& ~~~ BitVec.ofInt k.bits y).toNat))
  | .eql => some (.bool (x == y))
  | .neq => some (.bool (x != y))
  | .lss => some (.bool (decide (x < y)))
  | .leq => some (.bool (decide (x ≤ y)))
  | .gtr => some (.bool (decide (x > y)))
  | .geq => some (.bool (decide (x ≥ y)))
  | _ => none

def shBin (op : BinOp) (k : IntKind) (x y : Int) : Option AV :=
  if y < 0 then none else
  match op with
  | .shl => some (.int k (k.wrap (x * 2 ^ (min y.toNat k.bits))))
  | .shr => some (.int k (x.fdiv (2 ^ (min y.toNat k.bits))))
  | _ => none

def sBin (op : BinOp) (x y : ByteArray) : Option AV :=
  match op with
  | .add => if x.size + y.size ≤ 140737488351232 then some (.str (x ++ y)) else none
  | .eql => some (.bool (x.toList == y.toList))
  | .neq => some (.bool (!(x.toList == y.toList)))
  | .lss => some (.bool (Op.bytesLess x.toList y.toList))
  | .leq => some (.bool (Op.bytesLess x.toList y.toList || x.toList == y.toList))
  | .gtr => some (.bool (!(Op.bytesLess x.toList y.toList || x.toList == y.toList)))
  | .geq => some (.bool (!Op.bytesLess x.toList y.toList))
  | _ => none

def bBin (op : BinOp) (x y : Bool) : Option AV :=
  match op with
  | .eql => some (.bool (x == y))
  | .neq => some (.bool (!(x == y)))
  | _ => none

def isShift : BinOp → Bool
  | .shl | .shr => true
  | _ => false

def aBin (op : BinOp) (x y : AV) : Option AV :=
  match x, y with
  | .int k a, .int k' b => bif isShift op then shBin op k a b else (if k = k' then iBin op k a b else none)
  | .str a, .str b => sBin op a b
  | _, _ => none

def aBinb (op : BinOp) (x y : AV) : Option AV :=
  match x, y with
  | .bool a, .bool b => bBin op a b
  | _, _ => none

def aUn (op : UnOp) (x : AV) : Option AV :=
  match op, x with
  | .not, .bool b => some (.bool !b)
  | .neg, .int k n => some (.int k (k.wrap (0 - n)))
  | _, _ => none

def aConv (k : IntKind) : AV → Option AV
  | .int _ n => some (.int k (k.wrap n))
  | _ => none

def aBound (len : Nat) (d : Nat) : Option AV → Option Nat
  | none => some d
  | some (.int _ i) => if 0 ≤ i ∧ i ≤ len then some i.toNat else none
  | _ => none

def aSlc (s : Nat) (x : AV) (lo hi : Option AV) : Option AV :=
  match x with
  | .lsl j t s' off len =>
    if s' = s then (aBound len len hi).bind fun h => (aBound h 0 lo).bind fun l => some (.lsl j t s (off + l) (h - l)) else none
  | .sl t off s' es =>
    if s' = s then (aBound es.length es.length hi).bind fun h => (aBound h 0 lo).bind fun l => some (.sl t (off + l) s ((es.take h).drop l)) else none
  | .nils => (aBound 0 0 hi).bind fun h => (aBound h 0 lo).bind fun _ => some .nils
  | _ => none

def aSslc (x : AV) (lo hi : Option AV) : Option AV :=
  match x with
  | .str b => (aBound b.size b.size hi).bind fun h => (aBound h 0 lo).bind fun l => some (.str (b.extract l h))
  | _ => none

def aFaddr (off : Nat) : AV → Option AV
  | .ptr j t i f => some (.ptr j t i (f + off))
  | .eptr cs => some (.eptr (cs.drop off))
  | _ => none

def aField (agg : Bool) (off s : Nat) : AV → Option AV
  | .agg cs => ldCells agg s (cs.drop off)
  | _ => none

def aIaddr (s : Nat) (x i : AV) : Option AV :=
  match x, i with
  | .lsl j t s' off len, .int _ n => if s' = s ∧ 0 ≤ n ∧ n < len then some (.ptr j t (off + n.toNat) 0) else none
  | .sl _ _ s' es, .int _ n => if s' = s ∧ 0 ≤ n then (es[n.toNat]?).bind fun e => some (.eptr e.cells) else none
  | _, _ => none

/-- into an array in memory -/
def aAidx (len s : Nat) (x i : AV) : Option AV :=
  match x, i with
  | .ptr j t e f, .int _ n => if 0 ≤ n ∧ n < len then some (.ptr j t e (f + n.toNat * s)) else none
  | .eptr cs, .int _ n => if 0 ≤ n ∧ n < len then some (.eptr (cs.drop (n.toNat * s))) else none
  | _, _ => none

def aVidx (agg : Bool) (len s : Nat) (x i : AV) : Option AV :=
  match x, i with
  | .agg cs, .int _ n => if 0 ≤ n ∧ n < len then ldCells agg s (cs.drop (n.toNat * s)) else none
  | _, _ => none

def aSidx (x i : AV) : Option AV :=
  match x, i with
  | .str b, .int _ n => if 0 ≤ n then (b[n.toNat]?).bind fun c => some (.int .u8 c.toNat) else none
  | _, _ => none

def aExtr (i : Nat) : AV → Option AV
  | .tup vs => vs[i]?
  | _ => none

def aSlen : AV → Option AV
  | .str b => some (.int .i64 b.size)
  | _ => none

def aLen : AV → Option AV
  | .lsl _ _ _ _ len => some (.int .i64 len)
  | .sl _ _ _ es => some (.int .i64 es.length)
  | .nils => some (.int .i64 0)
  | _ => none

/-- what a slice holds -/
def elems (st : St) : AV → Option (List AV)
  | .lsl j t _ off len => (st.get j t).bind fun a => if off + len ≤ a.es.length then some ((a.es.drop off).take len) else none
  | .sl _ _ _ es => some es
  | .nils => some []
  | _ => none

def stride : AV → Option Nat
  | .lsl _ _ s _ _ => some s
  | .sl _ _ s _ => some s
  | _ => none

def aApp (s : Nat) (x y : AV) (st : St) : Option (AV × St) :=
  (elems st y).bind fun ys =>
  if y matches .nils ∨ stride y = some s then
    match x with
    | .nils => if ys.length ≤ maxNeed then some (.lsl st.m st.n s 0 ys.length, st.new s ys) else none
    | .lsl j t s' off len =>
      if s' = s ∧ off = 0 ∧ len + ys.length ≤ maxNeed then
        (st.get j t).bind fun a =>
          if len ≤ a.es.length then some (.lsl j st.n s 0 (len + ys.length), { st.put j { tag := st.n, s := s, es := a.es.take len ++ ys } with n := st.n + 1 }) else none
      else none
    | _ => none
  else none

def aMx (x y : AV) : Option AV :=
  match x, y with
  | .int k a, .int k' b => if k = k' then some (.int k (if b > a then b else a)) else none
  | _, _ => none
def aMn (x y : AV) : Option AV :=
  match x, y with
  | .int k a, .int k' b => if k = k' then some (.int k (if b < a then b else a)) else none
  | _, _ => none

def bytesOf : List AV → Option (List UInt8)
  | [] => some []
  | .int .u8 n :: r => (bytesOf r).bind fun l => some (UInt8.ofNat n.toNat :: l)
  | _ => none

def aB2s (st : St) (x : AV) : Option AV :=
  (elems st x).bind fun es => if x matches .nils ∨ stride x = some 1 then (bytesOf es).bind fun l => some (.str ⟨l.toArray⟩) else none

def fillBuild (ρ : Opd → AV) : List (Nat × Nat × Opd) → List AV → Option (List AV)
  | [], cs => some cs
  | (off, s, x) :: r, cs =>
    if (ρ x).stor = true ∧ (ρ x).cells.length = s ∧ off + s ≤ cs.length then fillBuild ρ r (splice off (ρ x).cells cs) else none

def fillSlice (ρ : Opd → AV) (s : Nat) : List (Nat × Opd) → List AV → Option (List AV)
  | [], es => some es
  | (i, x) :: r, es =>
    if (ρ x).stor = true ∧ (ρ x).cells.length = s ∧ i < es.length then fillSlice ρ s r (es.set i (ρ x)) else none

/-! ### what leaves a frame: local slices made trees -/

def mapO (g : AV → Option AV) : List AV → Option (List AV)
  | [] => some []
  | v :: vs => (g v).bind fun v => (mapO g vs).bind fun vs => some (v :: vs)

def resOne (st : St) (g : AV → Option AV) : AV → Option AV
  | .bool b => some (.bool b)
  | .int q n => some (.int q n)
  | .str b => some (.str b)
  | .nils => some .nils
  | .nilp => some .nilp
  | .sl t off s es => some (.sl t off s es)
  | .lsl j t s off len =>
    (st.get j t).bind fun a =>
      if off + len ≤ a.es.length then (mapO g ((a.es.drop off).take len)).bind fun es => some (.sl t off s es) else none
  | _ => none

def resVal (st : St) (g : AV → Option AV) : AV → Option AV
  | .agg cs => (mapO (resOne st g) cs).bind fun cs => some (.agg cs)
  | v => resOne st g v

/-- an element, to depth d -/
def resD (st : St) : Nat → AV → Option AV
  | 0 => fun _ => none
  | d + 1 => resVal st (resD st d)

def res (st : St) (v : AV) : Option AV := resD st 6 v

def resTup (st : St) : AV → Option AV
  | .tup vs => (mapO (res st) vs).bind fun vs => some (.tup vs)
  | v => res st v

/-! the local arrays that a value leads to -/
def locOne (st : St) (g : AV → List (Nat × Nat)) : AV → List (Nat × Nat)
  | .lsl j t _ off len => (j, t) :: match st.get j t with
    | some a => ((a.es.drop off).take len).flatMap g
    | none => []
  | _ => []

def locVal (st : St) (g : AV → List (Nat × Nat)) : AV → List (Nat × Nat)
  | .agg cs => cs.flatMap (locOne st g)
  | v => locOne st g v

def locD (st : St) : Nat → AV → List (Nat × Nat)
  | 0 => fun _ => []
  | d + 1 => locVal st (locD st d)

def locs (st : St) (vs : List AV) : List (Nat × Nat) := vs.flatMap (locD st 6)

mutual
def AV.tags : AV → List Nat
  | .sl t _ _ es => t :: tagsL es
  | .agg cs => tagsL cs
  | .tup cs => tagsL cs
  | .eptr cs => tagsL cs
  | _ => []
def tagsL : List AV → List Nat
  | [] => []
  | v :: vs => v.tags ++ tagsL vs
end

mutual
def AV.tree : AV → Bool
  | .sl _ _ _ es => treeL es
  | .agg cs => treeL cs
  | .tup cs => treeL cs
  | .bool _ | .int .. | .str _ | .nilp | .nils => true
  | _ => false
def treeL : List AV → Bool
  | [] => true
  | v :: vs => v.tree && treeL vs
end

def findLoc (t : Nat) : List (Nat × Nat) → Option Nat
  | [] => none
  | (j, u) :: l => if t = u then some j else findLoc t l

def noTag (ls : List (Nat × Nat)) (ts : List Nat) : Bool := ts.all fun t => (findLoc t ls).isNone

def relOne (ls : List (Nat × Nat)) : AV → Option AV
  | .sl t off s es => match findLoc t ls with
    | some j => some (.lsl j t s off es.length)
    | none => bif noTag ls (tagsL es) then some (.sl t off s es) else none
  | .agg _ => none
  | .tup _ => none
  | v => some v

def relVal (ls : List (Nat × Nat)) : AV → Option AV
  | .agg cs => (mapO (relOne ls) cs).bind fun cs => some (.agg cs)
  | v => relOne ls v

def relTup (ls : List (Nat × Nat)) : AV → Option AV
  | .tup vs => (mapO (relVal ls) vs).bind fun vs => some (.tup vs)
  | v => relVal ls v

def reloc (ls : List (Nat × Nat)) (v : AV) : Option AV :=
  match ls with
  | [] => some v
  | _ => relTup ls v

/-! a call's new slices made local arrays (all that are reached) -/
def mapS (g : AV → St → Option (AV × St)) : List AV → St → Option (List AV × St)
  | [], st => some ([], st)
  | v :: vs, st => (g v st).bind fun p => (mapS g vs p.2).bind fun q => some (p.1 :: q.1, q.2)

def thOne (g : AV → St → Option (AV × St)) : AV → St → Option (AV × St)
  | .sl t off s es, st =>
    if off = 0 ∧ s ≠ 0 then (mapS g es st).bind fun p =>
      some (.lsl p.2.m t s 0 es.length, { H := fun i => bif Nat.beq i p.2.m then some { tag := t, s := s, es := p.1 } else p.2.H i, m := p.2.m + 1, n := p.2.n })
    else none
  | .agg _, _ => none
  | .tup _, _ => none
  | v, st => some (v, st)

def thVal (g : AV → St → Option (AV × St)) : AV → St → Option (AV × St)
  | .agg cs, st => (mapS (thOne g) cs st).bind fun p => some (.agg p.1, p.2)
  | v, st => thOne g v st

def thD : Nat → AV → St → Option (AV × St)
  | 0, v, st => match v.tags with
    | [] => some (v, st)
    | _ => none
  | d + 1, v, st => thVal (thD d) v st

def thTup (d : Nat) : AV → St → Option (AV × St)
  | .tup vs, st => (mapS (thD d) vs st).bind fun p => some (.tup p.1, p.2)
  | v, st => thD d v st

def nodupB : List Nat → Bool
  | [] => true
  | t :: ts => !ts.contains t && nodupB ts

def thaw (d n0 : Nat) (v : AV) (st : St) : Option (AV × St) :=
  if nodupB v.tags = true ∧ v.tags.all (fun t => Nat.ble n0 t && Nat.blt t st.n) = true then thTup d v st else none

/-! ### the run -/

inductive XT where
  | normal
  | exit (id : Nat)
  | ret

structure Sys where
  call : Nat → List AV → Nat → Option (AV × Nat)
  inl : Nat → List AV → St → Option (AV × St)
  loop : List Nat → List Nat → ICode → List AV → St → Option (XT × List AV × St)

abbrev Fr := Nat → AV

def ev (A : Fr) : Opd → AV
  | .t i => A i
  | .c v => v

def fput (A : Fr) (d : Option Nat) (v : AV) : Fr :=
  match d with
  | some d => fun i => bif Nat.beq i d then v else A i
  | none => A

def ofKeep : List Nat → List AV → Fr
  | k :: ks, v :: vs => fun i => bif Nat.beq i k then v else ofKeep ks vs i
  | _, _ => fun _ => .undef

def clV (R : Sys) (f : Nat) (d : Nat) (args : List AV) (st : St) : Option (AV × St) :=
  (mapO (res st) args).bind fun as => (R.call f as st.n).bind fun r =>
    match d with
    | 0 => (reloc (locs st args) r.1).bind fun v => some (v, { st with n := r.2 })
    | d => thaw d st.n r.1 { st with n := r.2 }

section
variable {α : Type}

def opK (R : Sys) (o : AOp) (A : Fr) (st : St) (K : AV → St → Option α) : Option α :=
  match o with
  | .bad => none
  | .mv x => K (ev A x) st
  | .pick c a b => (aPick (ev A c) (ev A a) (ev A b)).bind fun v => K v st
  | .alloc e => if e.stor = true ∧ e.cells.length ≠ 0 then K (.ptr st.m st.n 0 0) (st.new e.cells.length [e]) else none
  | .box x => if (ev A x).stor = true ∧ (ev A x).cells.length ≠ 0 then K (.ptr st.m st.n 0 0) (st.new (ev A x).cells.length [ev A x]) else none
  | .build z ps => (fillBuild (ev A) ps z).bind fun cs => K (.agg cs) st
  | .bslice len s z ps => if z.stor = true ∧ z.cells.length = s ∧ s ≠ 0 then (fillSlice (ev A) s ps (List.replicate len z)).bind fun es => K (.lsl st.m st.n s 0 len) (st.new s es) else none
  | .load g s x => (aLoad g s st (ev A x)).bind fun v => K v st
  | .store s x v => (aStore s (ev A x) (ev A v) st).bind fun st => K (.tup []) st
  | .nilchk x => (aNilchk (ev A x)).bind fun v => K v st
  | .bin op x y => (aBin op (ev A x) (ev A y)).bind fun v => K v st
  | .binb op x y => (aBinb op (ev A x) (ev A y)).bind fun v => K v st
  | .un op x => (aUn op (ev A x)).bind fun v => K v st
  | .conv k x => (aConv k (ev A x)).bind fun v => K v st
  | .mkslice s z l c => match ev A l, ev A c with
    | .int .i64 l, .int .i64 c => if 0 ≤ l ∧ l ≤ c ∧ c ≤ maxNeed ∧ z.stor = true ∧ z.cells.length = s ∧ s ≠ 0 then K (.lsl st.m st.n s 0 l.toNat) (st.new s (List.replicate l.toNat z)) else none
    | _, _ => none
  | .slc s x lo hi => (aSlc s (ev A x) (lo.map (ev A)) (hi.map (ev A))).bind fun v => K v st
  | .sslc x lo hi => (aSslc (ev A x) (lo.map (ev A)) (hi.map (ev A))).bind fun v => K v st
  | .faddr off x => (aFaddr off (ev A x)).bind fun v => K v st
  | .field g off s x => (aField g off s (ev A x)).bind fun v => K v st
  | .iaddr s x i => (aIaddr s (ev A x) (ev A i)).bind fun v => K v st
  | .aidx len s x i => (aAidx len s (ev A x) (ev A i)).bind fun v => K v st
  | .vidx g len s x i => (aVidx g len s (ev A x) (ev A i)).bind fun v => K v st
  | .sidx x i => (aSidx (ev A x) (ev A i)).bind fun v => K v st
  | .extr x i => (aExtr i (ev A x)).bind fun v => K v st
  | .call f args inl d => bif inl then (R.inl f (args.map (ev A)) st).bind fun r => K r.1 r.2 else (clV R f d (args.map (ev A)) st).bind fun r => K r.1 r.2
  | .len x => (aLen (ev A x)).bind fun v => K v st
  | .slen x => (aSlen (ev A x)).bind fun v => K v st
  | .app s x y => (aApp s (ev A x) (ev A y) st).bind fun r => K r.1 r.2
  | .appn s x y => match ev A x with
    | .nils => (aApp s .nils (ev A y) st).bind fun r => K r.1 r.2
    | _ => none
  | .mx x y => (aMx (ev A x) (ev A y)).bind fun v => K v st
  | .mn x y => (aMn (ev A x) (ev A y)).bind fun v => K v st
  | .b2s x => (aB2s st (ev A x)).bind fun v => K v st

/-- two ways, by a Bool that is a value -/
def cnd (v : AV) (X Y : Option α) : Option α :=
  match v with
  | .bool true => X
  | .bool false => Y
  | _ => none

def skDrop : Option Nat → List Nat → List Nat
  | none, sk => sk
  | some d, sk => sk.filter fun t => !Nat.beq t d

/-- sk: where the skipped operations would have stored -/
def opsK (R : Sys) : List IOp → List Nat → Fr → St → (Fr → St → Option α) → Option α
  | [], _, A, st, K => K A st
  | o :: os, sk, A, st, K =>
    match o.guard with
    | none => opK R o.op A st fun v st => opsK R os (skDrop o.dst sk) (fput A o.dst v) st K
    | some (g, want) =>
      bif sk.contains g then opsK R os (o.dst.toList ++ sk) (fput A o.dst (.tup [])) st K
      else cnd (A g)
        (bif want then opK R o.op (fput A (some g) (.bool true)) st fun v st => opsK R os (skDrop o.dst sk) (fput (fput A (some g) (.bool true)) o.dst v) st K
          else opsK R os (o.dst.toList ++ sk) (fput (fput A (some g) (.bool true)) o.dst (.tup [])) st K)
        (bif want then opsK R os (o.dst.toList ++ sk) (fput (fput A (some g) (.bool false)) o.dst (.tup [])) st K
          else opK R o.op (fput A (some g) (.bool false)) st fun v st => opsK R os (skDrop o.dst sk) (fput (fput A (some g) (.bool false)) o.dst v) st K)

def seqX (x : XT) (A : Fr) (st : St) (N : Fr → St → Option α) (K : XT → Fr → St → Option α) : Option α :=
  match x with
  | .normal => N A st
  | x => K x A st

def blkX (id : Nat) (x : XT) (A : Fr) (st : St) (K : XT → Fr → St → Option α) : Option α :=
  match x with
  | .exit i => bif Nat.beq i id then K .normal A st else K (.exit i) A st
  | x => K x A st

def runK (R : Sys) : ICode → Fr → St → (XT → Fr → St → Option α) → Option α
  | .bad, _, _, _ => none
  | .skip, A, st, K => K .normal A st
  | .ops l, A, st, K => opsK R l [] A st fun A st => K .normal A st
  | .seq a b, A, st, K => runK R a A st fun x A st => seqX x A st (fun A st => runK R b A st K) K
  | .cond c x y, A, st, K => match c with
    | .t i => cnd (A i) (runK R x (fput A (some i) (.bool true)) st K) (runK R y (fput A (some i) (.bool false)) st K)
    | .c v => cnd v (runK R x A st K) (runK R y A st K)
  | .block id c, A, st, K => runK R c A st fun x A st => blkX id x A st K
  | .loop keep out c, A, st, K => (R.loop keep out c (keep.map A) st).bind fun r => K r.1 (ofKeep out r.2.1) r.2.2
  | .exit id, A, st, K => K (.exit id) A st
  | .ret, A, st, K => K .ret A st

end

inductive RV where
  | tmp (t : Nat)
  | cell (t : Nat) (agg : Bool) (s : Nat)
  deriving Inhabited

structure IFn where
  np : Nat
  nt : Nat
  rs : List RV
  code : ICode
  deriving Inhabited

def rvs (A : Fr) (st : St) : List RV → Option (List AV)
  | [] => some []
  | .tmp t :: r => (rvs A st r).bind fun vs => some (A t :: vs)
  | .cell t g s :: r => (aLoad g s st (A t)).bind fun v => (rvs A st r).bind fun vs => some (v :: vs)

def retV : List AV → AV
  | [v] => v
  | vs => .tup vs

def frame0 (args : List AV) : Fr := fun i => (args[i]?).getD (.tup [])

def stepR (F : Nat → Option IFn) (R : Sys) : Sys where
  call f as n := (F f).bind fun fn => if as.length = fn.np then
      runK R fn.code (frame0 as) { H := fun _ => none, m := 0, n := n } fun x A st =>
        match x with
        | .exit _ => none
        | _ => (rvs A st fn.rs).bind fun vs => (resTup st (retV vs)).bind fun v => some (v, st.n)
    else none
  inl f as st := (F f).bind fun fn => if as.length = fn.np then
      runK R fn.code (frame0 as) st fun x A st =>
        match x with
        | .exit _ => none
        | _ => (rvs A st fn.rs).bind fun vs => some (retV vs, st)
    else none
  loop keep out c vals st := runK R c (ofKeep keep vals) st fun x A st =>
    match x with
    | .normal => R.loop keep out c (keep.map A) st
    | x => some (x, out.map A, st)

def sys (F : Nat → Option IFn) : Nat → Sys
  | 0 => { call := fun _ _ _ => none, inl := fun _ _ _ => none, loop := fun _ _ _ _ _ => none }
  | k + 1 => stepR F (sys F k)

end Go.Proofs.YtilbmpdeginabaaFw
