/- An evaluator over the model's code: values as trees, a store of named objects, no tape: the words. -/
import Derived.CallsIn
import Derived.OrdersIn
import Derived.RangeFuncIn
import Derived.DefersIn
import Derived.RecoverIn
import Derived.Below
namespace Go.Proofs.YtceccojmekpneaaGreatDoor.Sw

/-- Data without a name in it. -/
inductive PVal where
  | bool (b : Bool)
  | int (k : IntKind) (n : Int)
  | str (s : List Nat)
  | nilp | nils | nilm | nilf | nili
  | agg (cs : List PVal)
  | tup (vs : List PVal)
  | iface (t : Nat) (v : PVal)
  | sl (xs : List PVal)
  | ip (v : PVal)
  | fn (f : Fn) (cap : List PVal)
  deriving Inhabited

/-- Kinds of references to what is in memory beside cells. -/
inductive Rk where
  | mp | it | yld
  deriving DecidableEq, Inhabited

/-- What a slot holds. -/
inductive AVal where
  | p (x : PVal)
  | agg (cs : List AVal)
  | tup (vs : List AVal)
  | iface (t : Nat) (v : AVal)
  | cl (xs : List PVal)
  | own (sz : Nat) (xs : List PVal)
  | ownm (es : List (PVal × PVal))
  | box (id off : Nat)
  | arr (id ep off len : Nat) (capd : Bool)
  | el (id ep i off : Nat)
  | fn (f : Fn) (cap : List AVal)
  | rf (k : Rk) (id : Nat)
  | junk
  deriving Inhabited

/-- Tries. -/
inductive Tr (α : Type) where
  | lf
  | nd (v : Option α) (l r : Tr α)

/-- What is in memory beside cells: a map, a walk over a string, a loop over a function, the calls that its rounds put off. -/
inductive HObj where
  | mp (es : List (PVal × AVal))
  | it (s : List Nat) (pos : Nat)
  | lp (tm : Tr AVal) (n : Nat) (ps : List Nat) (assign body : Code) (st : LoopState) (pend : Option Code)
  | dl (isOpen : Bool)
  deriving Inhabited

/-- What a name stands for. -/
inductive Obj where
  | box (cs : List AVal)
  | arr (sz n : Nat) (xs : List AVal) (ep lost fz : Nat)
  | ho (h : HObj)
  deriving Inhabited

def bits : Nat → Nat → List Bool
  | 0, _ => []
  | f + 1, m => match m with
    | 0 => []
    | m + 1 => (Nat.beq (Nat.mod (m + 1) 2) 0) :: bits f (Nat.div m 2)

def path (n : Nat) : List Bool := bits n n

def Tr.find {α : Type} : List Bool → Tr α → Option α
  | [], .nd v _ _ => v
  | b :: p, .nd _ l r => match b with
    | true => Tr.find p l
    | false => Tr.find p r
  | _, .lf => none

def Tr.put {α : Type} (x : α) : List Bool → Tr α → Tr α
  | [], .nd _ l r => .nd (some x) l r
  | [], .lf => .nd (some x) .lf .lf
  | b :: p, .nd v l r => match b with
    | true => .nd v (Tr.put x p l) r
    | false => .nd v l (Tr.put x p r)
  | b :: p, .lf => match b with
    | true => .nd none (Tr.put x p .lf) .lf
    | false => .nd none .lf (Tr.put x p .lf)

def Tr.get {α : Type} (t : Tr α) (n : Nat) : Option α := t.find (path n)
def Tr.set {α : Type} (t : Tr α) (n : Nat) (x : α) : Tr α := t.put x (path n)

/-- what was looked at and changed, the latest first. -/
inductive Log where
  | e
  | op (rd : List Nat) (wr : List (Nat × Obj)) (l : Log)
  | call (l1 l : Log)

def Log.rdOf : Log → List Nat
  | .e => []
  | .op rd _ l => rd ++ l.rdOf
  | .call a l => a.rdOf ++ l.rdOf

/-- all that was changed, the first first. -/
def Log.flat : Log → List (Nat × Obj)
  | .e => []
  | .op _ wr l => l.flat ++ wr
  | .call a l => l.flat ++ a.flat

structure St where
  next : Nat
  objs : Tr Obj
  log : Log := .e

def St.get (s : St) (id : Nat) : Option Obj := s.objs.get id
def St.set (s : St) (id : Nat) (o : Obj) : St := { s with objs := s.objs.set id o }
def St.empty : St := { next := 0, objs := .lf }
def St.sets (s : St) : List (Nat × Obj) → St
  | [] => s
  | (i, o) :: r => (s.set i o).sets r
def St.did (s : St) (rd : List Nat) (wr : List (Nat × Obj)) : St := { s.sets wr with log := .op rd wr s.log }

/-! ### Data of the model's values -/
def scalar : Value → Option PVal
  | .bool b => some (.bool b)
  | .int k n => some (.int k n)
  | .string s => some (.str (s.data.toList.map UInt8.toNat))
  | .pointer none => some .nilp
  | .slice none 0 0 => some .nils
  | .map none => some .nilm
  | .nilFunc => some .nilf
  | .nilIface => some .nili
  | _ => none

def scalars : List Value → Option (List PVal)
  | [] => some []
  | v :: vs => match scalar v, scalars vs with
    | some x, some xs => some (x :: xs)
    | _, _ => none

def ofValue : Value → Option PVal
  | .agg cs => (scalars cs.toList).map .agg
  | .tuple vs => if vs.isEmpty then some (.tup []) else none
  | v => scalar v

def isAggP (x : PVal) : Bool := match x with | .agg _ => true | _ => false

/-! ### Types -/
def aggT (P : Program) (t : Nat) : Option Bool := match P.underlying t with
  | some (.struct _) => some true
  | some (.array _ _) => some true
  | some _ => some false
  | none => none
def szT (P : Program) (t : Nat) : Option Nat := (P.info? t).map (·.size)
def bytesT (P : Program) (t : Nat) : Option Nat := (P.info? t).map (·.bytes)
def zeroT (P : Program) (t : Nat) : Option PVal := match P.info? t with
  | some i => match i.zero with
    | some v => ofValue v
    | none => none
  | none => none
def fieldT (P : Program) (t f : Nat) : Option Field := match P.underlying t with
  | some (.struct fs) => fs[f]?
  | _ => none
def elemT (P : Program) (t : Nat) : Option Nat := match P.underlying t with
  | some (.slice e) => some e
  | _ => none

/-! ### Cells -/
def unP : List AVal → Option (List PVal)
  | [] => some []
  | .p x :: r => match unP r with
    | some xs => some (x :: xs)
    | none => none
  | _ :: _ => none

def mkAgg (cs : List AVal) : AVal := match unP cs with
  | some ps => .p (.agg ps)
  | none => .agg cs
def mkTup (cs : List AVal) : AVal := match unP cs with
  | some ps => .p (.tup ps)
  | none => .tup cs

def cells : AVal → List AVal
  | .p (.agg cs) => cs.map .p
  | .agg cs => cs
  | v => [v]

def cellsP : PVal → List PVal
  | .agg cs => cs
  | v => [v]

def nth {α : Type} : List α → Nat → Option α
  | [], _ => none
  | x :: _, 0 => some x
  | _ :: r, n + 1 => nth r n

/-- a part of some cells, as a value: an aggregate, or one cell. -/
def part (agg : Bool) (cs : List AVal) (off n : Nat) : Option AVal :=
  match agg with
  | true => match Nat.ble (off + n) cs.length with
    | true => some (mkAgg ((cs.drop off).take n))
    | false => none
  | false => nth cs off

def partP (agg : Bool) (cs : List PVal) (off n : Nat) : Option PVal :=
  match agg with
  | true => match Nat.ble (off + n) cs.length with
    | true => some (.agg ((cs.drop off).take n))
    | false => none
  | false => nth cs off

def putCells (cs : List AVal) (off : Nat) (new : List AVal) : Option (List AVal) :=
  match Nat.ble (off + new.length) cs.length with
  | true => some (cs.take off ++ new ++ cs.drop (off + new.length))
  | false => none

def setNth {α : Type} : List α → Nat → α → Option (List α)
  | [], _, _ => none
  | _ :: r, 0, y => some (y :: r)
  | x :: r, n + 1, y => match setNth r n y with
    | some r' => some (x :: r')
    | none => none

/-! ### Purifying -/
def purs (pur : AVal → Option (PVal × List Nat)) : List AVal → Option (List PVal × List Nat)
  | [] => some ([], [])
  | v :: vs => match pur v, purs pur vs with
    | some (x, a), some (xs, b) => some (x :: xs, a ++ b)
    | _, _ => none

/-- the elements of a view, if it is still good. -/
def viewed (s : St) (id ep off len : Nat) : Option (List AVal) :=
  match s.get id with
  | some (.arr _ n xs _ lost _) =>
    match Nat.ble lost ep, Nat.ble (off + len) n with
    | true, true => some ((xs.drop off).take len)
    | _, _ => none
  | _ => none

def pur (s : St) : Nat → AVal → Option (PVal × List Nat)
  | 0, _ => none
  | d + 1, v => match v with
    | .p x => some (x, [])
    | .cl xs => some (.sl xs, [])
    | .agg cs => (purs (pur s d) cs).map fun (xs, a) => (.agg xs, a)
    | .tup cs => (purs (pur s d) cs).map fun (xs, a) => (.tup xs, a)
    | .iface t v => (pur s d v).map fun (x, a) => (.iface t x, a)
    | .fn f cap => (purs (pur s d) cap).map fun (xs, a) => (.fn f xs, a)
    | .arr id ep off len _ => match viewed s id ep off len with
      | some xs => (purs (pur s d) xs).map fun (ys, a) => (.sl ys, id :: a)
      | none => none
    | _ => none

end Go.Proofs.YtceccojmekpneaaGreatDoor.Sw
