/- The program's code, turned into the evaluator's code inside Lean. Conditions: none; definitions alone. -/
import Derived.Test.YtilbmpdeginabaaFw1
namespace Go.Proofs.YtilbmpdeginabaaFw
open Go

structure Hint where
  inl : Nat → Bool
  thaw : Nat → Nat → Nat   -- function, slot of the result

def avOne : Value → Option AV
  | .bool b => some (.bool b)
  | .int k n => some (.int k n)
  | .string s => some (.str s)
  | .pointer none => some .nilp
  | .slice none 0 0 => some .nils
  | _ => none

def mapM1 {α β : Type} (g : α → Option β) : List α → Option (List β)
  | [] => some []
  | v :: vs => (g v).bind fun v => (mapM1 g vs).bind fun vs => some (v :: vs)

def avOf : Value → Option AV
  | .agg cs => (mapM1 avOne cs.toList).bind fun cs => some (.agg cs)
  | v => avOne v

def od : Operand → Option Opd
  | .tmp t => some (.t t)
  | .const v => (avOf v).map .c
  | _ => none

section
variable (P : Program)

def szOk (t : TypeId) : Bool := (P.info? t).isSome && (P.underlying t).isSome
def szOf (t : TypeId) : Nat := P.cellsOf t
def aggOf (t : TypeId) : Bool := match P.underlying t with | some (.struct _) | some (.array _ _) => true | _ => false
/-- the zero value of a type whose bytes are few -/
def zeroOf (t : TypeId) : Option AV :=
  (P.info? t).bind fun i => i.zero.bind fun z => (avOf z).bind fun v => if v.cells.length = i.size then some v else none
def elemOf? (t : TypeId) : Option TypeId := match P.underlying t with
  | some (.slice e) => (P.info? e).bind fun i => if (P.underlying e).isSome = true ∧ i.size ≠ 0 ∧ i.bytes ≤ 4096 then some e else none
  | _ => none
def fieldOf? (t : TypeId) (f : Nat) : Option Field := match P.underlying t with
  | some (.struct fs) => (fs[f]?).bind fun f => if szOk P f.type = true ∧ szOf P f.type ≠ 0 then some f else none
  | _ => none

def orBad : Option AOp → AOp
  | some o => o
  | none => .bad

def odO (x : Option Operand) : Option (Option Opd) :=
  match x with
  | none => some none
  | some x => (od x).map some

def callable (f : Nat) : Bool := match P.funcs[f]? with
  | some fn => fn.body.isSome && !(fn.name == "runtime.NumGoroutine")
  | none => false

def compLen : List Operand → List TypeId → AOp
  | [x], [t] => orBad (match P.underlying t with
      | some .string => (od x).map .slen
      | some (.slice _) => (od x).map .len
      | _ => none)
  | _, _ => .bad
def compAppend (fr : Bool) : List Operand → List TypeId → AOp
  | [x, y], [t, t'] => orBad ((elemOf? P t).bind fun e => match P.underlying t' with
      | some (.slice _) => (zeroOf P e).bind fun _ => (od x).bind fun x => (od y).map fun y => bif fr then .appn (szOf P e) x y else .app (szOf P e) x y
      | _ => none)
  | _, _ => .bad
def compMx : List Operand → AOp
  | [x, y] => orBad ((od x).bind fun x => (od y).map fun y => .mx x y)
  | _ => .bad
def compMn : List Operand → AOp
  | [x, y] => orBad ((od x).bind fun x => (od y).map fun y => .mn x y)
  | _ => .bad

def compCall (h : Hint) (cur : Nat) (fr : Bool) (dst : Option Nat) (c : Call) : AOp :=
  match c.callee with
  | .value (.func f) => bif callable P f then orBad ((mapM1 od c.args.toList).map fun as => .call f as (h.inl f) ((dst.map (h.thaw cur)).getD 0)) else .bad
  | .builtin b => match b with
    | .len => compLen P c.args.toList c.argTypes.toList
    | .append => compAppend P fr c.args.toList c.argTypes.toList
    | .max => compMx c.args.toList
    | .min => compMn c.args.toList
    | _ => .bad
  | _ => .bad

def partsB (t : TypeId) : List (Nat × Operand) → Option (List (Nat × Nat × Opd))
  | [] => some []
  | (i, x) :: r => (fieldOf? P t i).bind fun f => (od x).bind fun x => (partsB t r).map fun r => (f.offset, szOf P f.type, x) :: r

def partsS : List (Nat × Operand) → Option (List (Nat × Opd))
  | [] => some []
  | (i, x) :: r => (od x).bind fun x => (partsS r).map fun r => (i, x) :: r

def isStruct (t : TypeId) : Bool := match P.underlying t with | some (.struct fs) => fs.all fun f => szOk P f.type | _ => false

def compOp (h : Hint) (cur : Nat) (fr : Bool) (o : Oper) : AOp :=
  match o.op with
  | .move x | .assign x => orBad ((od x).map .mv)
  | .pick c a b => orBad ((od c).bind fun c => (od a).bind fun a => (od b).map fun b => .pick c a b)
  | .alloc t => orBad ((zeroOf P t).map .alloc)
  | .box _ x => orBad ((od x).map .box)
  | .build t ps => bif isStruct P t then orBad ((zeroOf P t).bind fun z => (partsB P t ps.toList).map fun ps => .build z.cells ps) else .bad
  | .buildSlice t len ps => orBad ((elemOf? P t).bind fun e => (zeroOf P e).bind fun z => if len * szOf P e ≤ 16777216 then (partsS ps.toList).map fun ps => .bslice len (szOf P e) z ps else none)
  | .load t x => bif szOk P t then orBad ((od x).map (.load (aggOf P t) (szOf P t))) else .bad
  | .store t x v => bif szOk P t then orBad ((od x).bind fun x => (od v).map fun v => .store (szOf P t) x v) else .bad
  | .nilCheck x => orBad ((od x).map .nilchk)
  | .binOp op t x y _ => match P.underlying t with
    | some .bool => orBad ((od x).bind fun x => (od y).map fun y => .binb op x y)
    | some (.int _) | some .string => orBad ((od x).bind fun x => (od y).map fun y => .bin op x y)
    | _ => .bad
  | .unOp op _ x => orBad ((od x).map (.un op))
  | .convert src dst x => match P.underlying src, P.underlying dst with
    | some (.int _), some (.int k) => orBad ((od x).map (.conv k))
    | some (.slice e), some .string => bif (match P.underlying e with | some (.int .u8) => true | _ => false) then orBad ((od x).map .b2s) else .bad
    | _, _ => .bad
  | .makeSlice t l c => orBad ((elemOf? P t).bind fun e => (zeroOf P e).bind fun z => (od l).bind fun l => (od c).map fun c => .mkslice (szOf P e) z l c)
  | .slice t x lo hi none => orBad (match P.underlying t with
    | some .string => (od x).bind fun x => (odO lo).bind fun lo => (odO hi).map fun hi => .sslc x lo hi
    | some (.slice _) => (elemOf? P t).bind fun e => (od x).bind fun x => (odO lo).bind fun lo => (odO hi).map fun hi => .slc (szOf P e) x lo hi
    | _ => none)
  | .fieldAddr t x f => orBad ((fieldOf? P t f).bind fun f => (od x).map fun x => .faddr f.offset x)
  | .field t x f => orBad ((fieldOf? P t f).bind fun f => (od x).map fun x => .field (aggOf P f.type) f.offset (szOf P f.type) x)
  | .indexAddr t x i => match P.underlying t with
    | some (.array len e) => bif szOk P e && Nat.blt 1 len then orBad ((od x).bind fun x => (od i).map fun i => .aidx len (szOf P e) x i) else .bad
    | _ => orBad ((elemOf? P t).bind fun e => (od x).bind fun x => (od i).map fun i => .iaddr (szOf P e) x i)
  | .index t x i => match P.underlying t with
    | some .string => orBad ((od x).bind fun x => (od i).map fun i => .sidx x i)
    | some (.array len e) => bif szOk P e then orBad ((od x).bind fun x => (od i).map fun i => .vidx (aggOf P e) len (szOf P e) x i) else .bad
    | _ => .bad
  | .extract x i => orBad ((od x).map fun x => .extr x i)
  | .call c => compCall P h cur fr o.dst c
  | _ => .bad

/-- an empty literal that an append of the same region takes -/
def feeds (ops : Array Oper) (o : Oper) : Bool :=
  match o.op, o.dst with
  | .buildSlice _ 0 _, some d => ops.toList.any fun u => match u.op with
    | .call c => match c.callee, c.args.toList with
      | .builtin .append, (.tmp t :: _) => Nat.beq t d
      | _, _ => false
    | _ => false
  | _, _ => false

/-- an append to nothing: to nil, or to such a literal -/
def fed (ops : Array Oper) (o : Oper) : Bool :=
  match o.op with
  | .call c => match c.callee, c.args.toList with
    | .builtin .append, (.const _ :: _) => true
    | .builtin .append, (.tmp x :: _) => ops.toList.any fun o => feeds ops o && (match o.dst with | some d => Nat.beq d x | none => false)
    | _, _ => false
  | _ => false

def compNil (o : Oper) : AOp :=
  match o.op with
  | .buildSlice t len ps => bif Nat.beq len 0 && Nat.beq ps.size 0 && (match elemOf? P t with | some _ => true | _ => false) then .mv (.c .nils) else .bad
  | _ => .bad

def compOp' (h : Hint) (cur : Nat) (ops : Array Oper) (o : Oper) : AOp :=
  bif feeds ops o then compNil P o else compOp P h cur (fed ops o) o

def compOper (h : Hint) (cur nt : Nat) (ops : Array Oper) (o : Oper) : IOp :=
  let dok := match o.dst with | none => true | some d => Nat.blt d nt
  match o.guard with
  | none => bif dok then { dst := o.dst, guard := none, op := compOp' P h cur ops o } else { dst := none, guard := none, op := .bad }
  | some (j, want) => match (ops[j]?).bind (·.dst) with
    | some g => bif dok && Nat.blt g nt then { dst := o.dst, guard := some (g, want), op := compOp' P h cur ops o } else { dst := none, guard := none, op := .bad }
    | none => { dst := none, guard := none, op := .bad }

/-! regions that draw their order. 0: numbers alone · 1: reads local arrays, or makes new ones · 2: writes -/
def cls : AOp → Nat
  | .bad | .store .. | .app .. => 2
  | .call _ _ inl d => bif inl || !Nat.beq d 0 then 2 else 1
  | .appn .. | .alloc _ | .box _ | .bslice .. | .mkslice .. | .load .. | .b2s _ => 1
  | _ => 0

def addL (l : List Nat) (t : Nat) : List Nat := bif l.contains t then l else t :: l
def unionL (a b : List Nat) : List Nat := a.foldl addL b

/-- for each operation, those that must have been carried out ahead of it -/
def befores : List Oper → List (List Nat) → List (List Nat)
  | [], acc => acc
  | o :: os, acc => befores os (acc ++ [o.after.toList.foldl (fun s e => bif Region.binds .any e then unionL (addL ((acc[e.on]?).getD []) e.on) s else s) []])

def opdT : Opd → List Nat
  | .t i => [i]
  | _ => []
def oT : Option Opd → List Nat
  | some x => opdT x
  | none => []
def opT : AOp → List Nat
  | .mv x | .box x | .load _ _ x | .nilchk x | .un _ x | .conv _ x | .faddr _ x | .field _ _ _ x | .extr x _ | .len x | .slen x | .b2s x => opdT x
  | .pick c a b => opdT c ++ opdT a ++ opdT b
  | .build _ ps => ps.flatMap fun p => opdT p.2.2
  | .bslice _ _ _ ps => ps.flatMap fun p => opdT p.2
  | .store _ x y | .bin _ x y | .binb _ x y | .mkslice _ _ x y | .iaddr _ x y | .aidx _ _ x y | .vidx _ _ _ x y | .sidx x y | .app _ x y | .appn _ x y | .mx x y | .mn x y => opdT x ++ opdT y
  | .slc _ x lo hi | .sslc x lo hi => opdT x ++ oT lo ++ oT hi
  | .call _ as _ _ => as.flatMap opdT
  | _ => []
def iopT (o : IOp) : List Nat := (match o.guard with | some (g, _) => [g] | none => []) ++ opT o.op

def clash (x y : IOp) : Bool :=
  (match x.dst with | some d => (iopT y).contains d || (match y.dst with | some e => Nat.beq d e | none => false) | none => false) ||
  (match y.dst with | some d => (iopT x).contains d | none => false) ||
  (Nat.beq (cls x.op) 2 && !Nat.beq (cls y.op) 0) || (Nat.beq (cls y.op) 2 && !Nat.beq (cls x.op) 0)

def orderOk (l : List IOp) (b : List (List Nat)) : Bool :=
  (List.range l.length).all fun j => (List.range j).all fun i => ((b[j]?).getD []).contains i || !clash ((l[i]?).getD default) ((l[j]?).getD default)

def afterOk (ops : List Oper) : Bool := (List.range ops.length).all fun j => match ops[j]? with
  | some o => o.after.toList.all fun e => Nat.blt e.on j || !Region.binds .any e
  | none => false

def compOps (h : Hint) (cur nt : Nat) (ops : Array Oper) (draw : Bool) : ICode :=
  let l := ops.toList.map (compOper P h cur nt ops)
  bif draw && !(afterOk ops.toList && orderOk l (befores ops.toList [])) then .bad else .ops l

/-! what is read later -/
def liveOps : List IOp → List Nat → List Nat
  | [], out => out
  | o :: os, out =>
    let l := liveOps os out
    let l := match o.dst with | some d => l.filter (fun t => !Nat.beq t d) | none => l
    unionL (iopT o) l

def setAt (f : Nat → List Nat) (id : Nat) (v : List Nat) : Nat → List Nat := fun i => bif Nat.beq i id then v else f i

/-- live before; 'reach': all that may be wanted behind a way out of a loop -/
def live (rs : List Nat) : ICode → (Nat → List Nat) → List Nat → List Nat
  | .bad, _, out => out
  | .skip, _, out => out
  | .ops l, _, out => liveOps l out
  | .seq a b, brk, out => live rs a brk (live rs b brk out)
  | .cond c x y, brk, out => unionL (opdT c) (unionL (live rs x brk out) (live rs y brk out))
  | .block id c, brk, out => live rs c (setAt brk id out) out
  | .loop _ _ c, brk, _ => live rs c brk (live rs c brk [])
  | .exit id, brk, _ => brk id
  | .ret, _, _ => rs

def sortL (l : List Nat) : List Nat := l.foldl (fun acc t => (acc.takeWhile (Nat.blt · t)) ++ t :: (acc.dropWhile (Nat.blt · t))) []

/-- the loops' lists: 'acc': what is live behind any of the blocks round, and at a return -/
def ann (rs : List Nat) : ICode → (Nat → List Nat) → List Nat → List Nat → ICode
  | .seq a b, brk, acc, out => .seq (ann rs a brk acc (live rs b brk out)) (ann rs b brk acc out)
  | .cond c x y, brk, acc, out => .cond c (ann rs x brk acc out) (ann rs y brk acc out)
  | .block id c, brk, acc, out => .block id (ann rs c (setAt brk id out) (unionL out acc) out)
  | .loop k o c, brk, acc, _ => .loop (sortL (live rs (.loop k o c) brk [])) (sortL acc) (ann rs c brk acc (live rs c brk (live rs c brk [])))
  | c, _, _, _ => c

def comp0 (h : Hint) (cur nt : Nat) : Code → ICode
  | .skip => .skip
  | .region _ ops draw => compOps P h cur nt ops draw
  | .seq a b => .seq (comp0 h cur nt a) (comp0 h cur nt b)
  | .cond c x y => match od c with
    | some (.t i) => bif Nat.blt i nt then .cond (.t i) (comp0 h cur nt x) (comp0 h cur nt y) else .bad
    | some c => .cond c (comp0 h cur nt x) (comp0 h cur nt y)
    | none => .bad
  | .block id c => .block id (comp0 h cur nt c)
  | .loop c => .loop [] [] (comp0 h cur nt c)
  | .exit id => .exit id
  | .ret => .ret
  | _ => .bad

def resT : List ResultVar → Option (List RV)
  | [] => some []
  | .tmp t :: r => (resT r).map (.tmp t :: ·)
  | .cell a t :: r => bif szOk P t then (resT r).map (.cell a (aggOf P t) (szOf P t) :: ·) else none

def rvT : RV → Nat
  | .tmp t => t
  | .cell t _ _ => t

def compFn (h : Hint) (f : Nat) : Option IFn :=
  (P.funcs[f]?).bind fun fn => fn.body.bind fun c => (resT P fn.results.toList).bind fun rs =>
    if fn.params.size ≤ fn.ntmps ∧ (rs.map rvT).all (Nat.blt · fn.ntmps) = true then
      some { np := fn.params.size, nt := fn.ntmps, rs := rs, code := ann (rs.map rvT) (comp0 P h f fn.ntmps c) (fun _ => []) (rs.map rvT) (rs.map rvT) }
    else none

end
end Go.Proofs.YtilbmpdeginabaaFw
