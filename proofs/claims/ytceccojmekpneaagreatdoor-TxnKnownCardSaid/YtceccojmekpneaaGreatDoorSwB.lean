/- The evaluator: operations. -/
import Derived.Test.YtceccojmekpneaaGreatDoorSwA
namespace Go.Proofs.YtceccojmekpneaaGreatDoor.Sw

/-! ### Pure operations -/
def bytesLess : List Nat → List Nat → Bool
  | _, [] => false
  | [], _ :: _ => true
  | a :: x, b :: y => match Nat.blt a b with
    | true => true
    | false => match Nat.beq a b with
      | true => bytesLess x y
      | false => false

def sameBytes : List Nat → List Nat → Bool
  | [], [] => true
  | a :: x, b :: y => match Nat.beq a b with
    | true => sameBytes x y
    | false => false
  | _, _ => false

def intBin (op : BinOp) (k : IntKind) (a b : Int) : Option PVal :=
  match op with
  | .add => some (.int k (k.wrap (a + b)))
  | .sub => some (.int k (k.wrap (a - b)))
  | .mul => some (.int k (k.wrap (a * b)))
  | .quo => if b = 0 then none else some (.int k (k.wrap (a.tdiv b)))
  | .rem => if b = 0 then none else some (.int k (a.tmod b))
  | .and => some (.int k (k.wrap (BitVec.ofInt k.bits a &&& BitVec.ofInt k.bits b).toNat))
  | .or => some (.int k (k.wrap (BitVec.ofInt k.bits a ||| BitVec.ofInt k.bits b).toNat))
  | .xor => some (.int k (k.wrap (BitVec.ofInt k.bits a ^^^ BitVec.ofInt k.bits b).toNat))
  | .andNot => some (.int k (k.wrap (BitVec.ofInt k.bits a &&& ~~~(BitVec.ofInt k.bits b)).toNat))
  | .eql => some (.bool (a == b))
  | .neq => some (.bool (a != b))
  | .lss => some (.bool (decide (a < b)))
  | .leq => some (.bool (decide (a ≤ b)))
  | .gtr => some (.bool (decide (a > b)))
  | .geq => some (.bool (decide (a ≥ b)))
  | _ => none

def shiftBin (op : BinOp) (k : IntKind) (a b : Int) : Option PVal :=
  if b < 0 then none else
  match op with
  | .shl => some (.int k (k.wrap (a * 2 ^ (min b.toNat k.bits))))
  | .shr => some (.int k (a.fdiv (2 ^ (min b.toNat k.bits))))
  | _ => none

def strBin (op : BinOp) (a b : List Nat) : Option PVal :=
  match op with
  | .add => match Nat.ble (a.length + b.length) 1099511627776 with
    | true => some (.str (a ++ b))
    | false => none
  | .eql => some (.bool (sameBytes a b))
  | .neq => some (.bool (!sameBytes a b))
  | .lss => some (.bool (bytesLess a b))
  | .leq => some (.bool (bytesLess a b || sameBytes a b))
  | .gtr => some (.bool (!(bytesLess a b || sameBytes a b)))
  | .geq => some (.bool (!bytesLess a b))
  | _ => none

/-- is it a slice, and nil? -/
def nilSl : AVal → Option Bool
  | .p .nils => some true
  | .p (.sl _) => some false
  | .cl _ => some false
  | .arr .. => some false
  | _ => none
def nilPt : AVal → Option Bool
  | .p .nilp => some true
  | .p (.ip _) => some false
  | .box .. => some false
  | .el .. => some false
  | _ => none
def nilMp : AVal → Option Bool
  | .p .nilm => some true
  | .rf .mp _ => some false
  | _ => none
def nilFn : AVal → Option Bool
  | .p .nilf => some true
  | .p (.fn ..) => some false
  | .fn .. => some false
  | .rf .yld _ => some false
  | _ => none
def nilIf : AVal → Option Bool
  | .p .nili => some true
  | .p (.iface ..) => some false
  | .iface .. => some false
  | _ => none

/-- equal, where one of two is nil. -/
def nilEq : Option Bool → Option Bool → Option Bool
  | some true, some b => some b
  | some false, some true => some false
  | _, _ => none

def eqv (P : Program) (t : Nat) (x y : AVal) : Option Bool :=
  match P.underlying t with
  | some .bool => match x, y with
    | .p (.bool a), .p (.bool b) => some (a == b)
    | _, _ => none
  | some (.slice _) => nilEq (nilSl x) (nilSl y)
  | some (.pointer _) => nilEq (nilPt x) (nilPt y)
  | some (.map _ _) => nilEq (nilMp x) (nilMp y)
  | some (.func _ _ _) => nilEq (nilFn x) (nilFn y)
  | some (.interface _) => nilEq (nilIf x) (nilIf y)
  | _ => none

/-- the same, of a plain kind. -/
def basicSame (d : Option TypeDesc) (x y : PVal) : Option Bool :=
  match d, x, y with
  | some (.int _), .int k a, .int k' b => match decide (k = k') with
    | true => some (a == b)
    | false => none
  | some .string, .str a, .str b => some (sameBytes a b)
  | some .bool, .bool a, .bool b => some (a == b)
  | _, _, _ => none

/-- the same, field by field; all fields are of plain kinds. -/
def sameFields (P : Program) : List Field → List PVal → List PVal → Option Bool
  | [], _, _ => some true
  | f :: fs, a, b => match f.name == "_", aggT P f.type, nth a f.offset, nth b f.offset with
    | false, some false, some x, some y => match basicSame (P.underlying f.type) x y with
      | some true => sameFields P fs a b
      | r => r
    | _, _, _, _ => none

/-- the same, element by element, of a plain kind. -/
def sameRow (P : Program) (e c : Nat) (a b : List PVal) : Nat → Nat → Option Bool
  | _, 0 => some true
  | i, k + 1 => match nth a (i * c), nth b (i * c) with
    | some x, some y => match basicSame (P.underlying e) x y with
      | some true => sameRow P e c a b (i + 1) k
      | r => r
    | _, _ => none

def structEq (P : Program) (t : Nat) (a b : List PVal) : Option Bool :=
  match P.underlying t with
  | some (.array n e) => match aggT P e, szT P e with
    | some false, some c => sameRow P e c a b 0 n
    | _, _ => none
  | some (.struct fs) => match P.stoodInHeld t with
    | false => sameFields P fs.toList a b
    | true => none
  | _ => none

def isConst : Operand → Bool
  | .const _ => true
  | _ => false

/-- two nil interfaces are compared only where one is written nil. -/
def bothNili : AVal → AVal → Bool
  | .p .nili, .p .nili => true
  | _, _ => false

def binary (P : Program) (op : BinOp) (t : Nat) (ox oy : Operand) (x y : AVal) : Option AVal :=
  match x, y with
  | .p (.int k a), .p (.int k' b) => match op with
    | .shl => (shiftBin op k a b).map .p
    | .shr => (shiftBin op k a b).map .p
    | _ => if k = k' then (intBin op k a b).map .p else none
  | .p (.str a), .p (.str b) => (strBin op a b).map .p
  | .p (.agg a), .p (.agg b) => match op, P.eqGuardType P.depth t with
    | .eql, false => (structEq P t a b).map fun b => .p (.bool b)
    | .neq, false => (structEq P t a b).map fun b => .p (.bool (!b))
    | _, _ => none
  | x, y => match op with
    | .eql => match bothNili x y && !(isConst ox || isConst oy) with
      | true => none
      | false => (eqv P t x y).map fun b => .p (.bool b)
    | .neq => match bothNili x y && !(isConst ox || isConst oy) with
      | true => none
      | false => (eqv P t x y).map fun b => .p (.bool (!b))
    | _ => none

def unary (op : UnOp) (x : AVal) : Option AVal :=
  match op, x with
  | .neg, .p (.int k n) => some (.p (.int k (k.wrap (0 - n))))
  | .not, .p (.bool b) => some (.p (.bool (!b)))
  | .xor, .p (.int k n) => (intBin .xor k (if k.signed then -1 else k.max) n).map .p
  | _, _ => none

def conv (P : Program) (src dst : Nat) (x : AVal) : Option AVal :=
  match P.underlying dst, x with
  | some (.int k), .p (.int _ n) => match P.underlying src with
    | some (.int _) => some (.p (.int k (k.wrap n)))
    | _ => none
  | some .string, .p (.str s) => match P.underlying src with
    | some .string => some (.p (.str s))
    | _ => none
  | _, _ => none

/-! ### Operations that look into the store -/
/-- what an operation does: its value, the names that it looks at, those that it gives a new meaning. -/
structure Eff where
  v : AVal
  rd : List Nat
  wr : List (Nat × Obj)

def Eff.pure (v : AVal) : Eff := ⟨v, [], []⟩

/-- the cells that a pointer leads to, from there on. -/
def at_ (s : St) (x : AVal) : Option (List AVal × Nat × List Nat) :=
  match x with
  | .box id off => match s.get id with
    | some (.box cs) => some (cs, off, [id])
    | _ => none
  | .el id ep i off => match s.get id with
    | some (.arr _ _ xs _ lost _) => match Nat.ble lost ep with
      | true => match nth xs i with
        | some .junk => none
        | some e => some (cells e, off, [id])
        | none => none
      | false => none
    | _ => none
  | _ => none

def loadOp (P : Program) (s : St) (t : Nat) (x : AVal) : Option Eff :=
  match aggT P t, szT P t with
  | some g, some n => match x with
    | .p (.ip v) => match g with
      | true => match v with
        | .agg cs => match Nat.beq cs.length n with
          | true => some (.pure (.p v))
          | false => none
        | _ => none
      | false => match v with
        | .agg _ => none
        | _ => some (.pure (.p v))
    | _ => match at_ s x with
      | some (cs, off, ids) => (part g cs off n).map fun v => ⟨v, ids, []⟩
      | none => none
  | _, _ => none

/-- the cells of a value of a type. -/
def cellsAs (g : Bool) (n : Nat) (v : AVal) : Option (List AVal) :=
  match g with
  | true => match v with
    | .p (.agg cs) => match Nat.beq cs.length n with
      | true => some (cs.map .p)
      | false => none
    | .agg cs => match Nat.beq cs.length n with
      | true => some cs
      | false => none
    | _ => none
  | false => match v with
    | .p (.agg _) => none
    | .agg _ => none
    | .p (.tup _) => none
    | .tup _ => none
    | .own _ _ => none
    | .ownm _ => none
    | .junk => none
    | _ => match Nat.beq n 1 with
      | true => some [v]
      | false => none

/-- an element with other cells. -/
def reform (e : AVal) (cs : List AVal) : AVal :=
  match e with
  | .p (.agg _) => mkAgg cs
  | .agg _ => mkAgg cs
  | _ => cs.headD .junk

def storeOp (P : Program) (s : St) (t : Nat) (x v : AVal) : Option Eff :=
  match aggT P t, szT P t with
  | some g, some n => match cellsAs g n v with
    | some new => match x with
      | .box id off => match s.get id with
        | some (.box cs) => (putCells cs off new).map fun cs' => ⟨.p (.tup []), [id], [(id, .box cs')]⟩
        | _ => none
      | .el id ep i off => match s.get id with
        | some (.arr sz m xs ep' _ fz) => match Nat.beq ep ep', Nat.ble fz i with
          | true, true => match nth xs i with
            | some .junk => none
            | some e => match putCells (cells e) off new with
              | some cs' => match setNth xs i (reform e cs') with
                | some xs' => some ⟨.p (.tup []), [id], [(id, .arr sz m xs' ep' ep' fz)]⟩
                | none => none
              | none => none
            | none => none
          | _, _ => none
        | _ => none
      | _ => none
    | none => none
  | _, _ => none

def fieldAddrOp (P : Program) (t f : Nat) (x : AVal) : Option AVal :=
  match fieldT P t f with
  | some fd => match szT P fd.type, aggT P fd.type with
    | some n, some g => match n with
      | 0 => none
      | _ => match x with
        | .box id off => some (.box id (off + fd.offset))
        | .el id ep i off => some (.el id ep i (off + fd.offset))
        | .p (.ip (.agg cs)) => (partP g cs fd.offset n).map fun v => .p (.ip v)
        | _ => none
    | _, _ => none
  | none => none

def partV (g : Bool) (x : AVal) (off n : Nat) : Option AVal :=
  match x with
  | .p (.agg cs) => (partP g cs off n).map .p
  | .agg cs => part g cs off n
  | _ => none

def fieldOp (P : Program) (t f : Nat) (x : AVal) : Option AVal :=
  match fieldT P t f with
  | some fd => match szT P fd.type, aggT P fd.type with
    | some n, some g => partV g x fd.offset n
    | _, _ => none
  | none => none

def natOf (x : AVal) : Option Nat :=
  match x with
  | .p (.int _ (.ofNat n)) => some n
  | _ => none

def indexAddrOp (P : Program) (s : St) (t : Nat) (x i : AVal) : Option Eff :=
  match natOf i with
  | some n => match P.underlying t with
    | some (.slice e) => match szT P e with
      | some sz => match x with
        | .p (.sl xs) => match nth xs n with
          | some v => match Nat.beq (cellsP v).length sz with
            | true => some (.pure (.p (.ip v)))
            | false => none
          | none => none
        | .cl xs => match nth xs n with
          | some v => match Nat.beq (cellsP v).length sz with
            | true => some (.pure (.p (.ip v)))
            | false => none
          | none => none
        | .arr id ep off len _ => match s.get id with
          | some (.arr sz' _ _ _ lost _) => match Nat.blt n len, Nat.beq sz sz', Nat.ble lost ep with
            | true, true, true => some ⟨.el id ep (off + n) 0, [id], []⟩
            | _, _, _ => none
          | _ => none
        | _ => none
      | none => none
    | some (.array len e) => match szT P e with
      | some sz => match Nat.blt n len with
        | true => match x with
          | .box id off => some (.pure (.box id (off + n * sz)))
          | .el id ep j off => some (.pure (.el id ep j (off + n * sz)))
          | .p (.ip (.agg cs)) => match aggT P e with
            | some g => (partP g cs (n * sz) sz).map fun v => .pure (.p (.ip v))
            | none => none
          | _ => none
        | false => none
      | none => none
    | _ => none
  | none => none

def indexOp (P : Program) (t : Nat) (x i : AVal) : Option AVal :=
  match natOf i with
  | some n => match P.underlying t with
    | some .string => match x with
      | .p (.str bs) => (nth bs n).map fun b => .p (.int .u8 (Int.ofNat b))
      | _ => none
    | some (.array len e) => match szT P e, aggT P e with
      | some sz, some g => match Nat.blt n len with
        | true => partV g x (n * sz) sz
        | false => none
      | _, _ => none
    | _ => none
  | none => none

/-- a bound of a slice expression: written, or the given one. -/
def bound (x : Option AVal) (d : Nat) : Option Nat :=
  match x with
  | none => some d
  | some v => natOf v

/-- from where to where, and whether the room behind is cut off. -/
def cut (lo hi mx : Option AVal) (len : Nat) : Option (Nat × Nat × Bool) :=
  match bound lo 0, bound hi len with
  | some l, some h => match Nat.ble l h, Nat.ble h len with
    | true, true => match mx with
      | none => some (l, h, false)
      | some m => match natOf m, hi with
        | some m, some _ => match Nat.beq m h with
          | true => some (l, h, true)
          | false => none
        | _, _ => none
    | _, _ => none
  | _, _ => none

/-- the elements have so many cells. -/
def wide (sz : Nat) : List PVal → Bool
  | [] => true
  | x :: _ => Nat.beq (cellsP x).length sz

def sliceOp (P : Program) (s : St) (t : Nat) (x : AVal) (lo hi mx : Option AVal) : Option Eff :=
  match P.underlying t with
  | some .string => match x, mx with
    | .p (.str bs), none => match cut lo hi none bs.length with
      | some (l, h, _) => some (.pure (.p (.str ((bs.drop l).take (h - l)))))
      | none => none
    | _, _ => none
  | some (.slice e) => match szT P e with
    | some sz => match x with
      | .p .nils => match cut lo hi mx 0 with
        | some _ => some (.pure (.p .nils))
        | none => none
      | .p (.sl xs) => match cut lo hi mx xs.length, wide sz xs with
        | some (l, h, c), true => match c with
          | false => some (.pure (.p (.sl ((xs.drop l).take (h - l)))))
          | true => some (.pure (.cl ((xs.drop l).take (h - l))))
        | _, _ => none
      | .cl xs => match cut lo hi mx xs.length, wide sz xs with
        | some (l, h, c), true => match c with
          | false => some (.pure (.p (.sl ((xs.drop l).take (h - l)))))
          | true => some (.pure (.cl ((xs.drop l).take (h - l))))
        | _, _ => none
      | .arr id ep off len c => match cut lo hi mx len, s.get id with
        | some (l, h, c'), some (.arr sz' _ _ _ _ _) => match Nat.beq sz sz' with
          | true => match Nat.beq l h, c' with
            | true, true => some ⟨.cl [], [id], []⟩
            | true, false => some ⟨.p (.sl []), [id], []⟩
            | false, true => some ⟨.arr id ep (off + l) (h - l) true, [id], []⟩
            | false, false => match c && !Nat.beq h len with
              | true => none
              | false => some ⟨.arr id ep (off + l) (h - l) c, [id], []⟩
          | false => none
        | _, _ => none
      | _ => none
    | none => none
  | _ => none

/-! ### Making -/
def fillStruct (P : Program) (fs : Array Field) (cs : List AVal) : List (Nat × AVal) → Option (List AVal)
  | [] => some cs
  | (i, v) :: r => match fs[i]? with
    | some f => match szT P f.type, aggT P f.type with
      | some n, some g => match cellsAs g n v with
        | some new => match putCells cs f.offset new with
          | some cs' => fillStruct P fs cs' r
          | none => none
        | none => none
      | _, _ => none
    | none => none

def fillRow (g : Bool) (n : Nat) (cs : List AVal) : List (Nat × AVal) → Option (List AVal)
  | [] => some cs
  | (i, v) :: r => match cellsAs g n v with
    | some new => match putCells cs (i * n) new with
      | some cs' => fillRow g n cs' r
      | none => none
    | none => none

def buildOp (P : Program) (t : Nat) (parts : List (Nat × AVal)) : Option AVal :=
  match zeroT P t with
  | some (.agg zs) => match P.underlying t with
    | some (.struct fs) => match fs.toList.all fun f => (szT P f.type).isSome with
      | true => (fillStruct P fs (zs.map .p) parts).map mkAgg
      | false => none
    | some (.array _ e) => match szT P e, aggT P e with
      | some n, some g => (fillRow g n (zs.map .p) parts).map mkAgg
      | _, _ => none
    | _ => none
  | _ => none

/-- a list of elements, given in their order. -/
def elemsIn (g : Bool) (n : Nat) : Nat → List (Nat × AVal) → Option (List AVal)
  | _, [] => some []
  | k, (i, v) :: r => match Nat.beq i k, cellsAs g n v with
    | true, some _ => match elemsIn g n (k + 1) r with
      | some vs => some (v :: vs)
      | none => none
    | _, _ => none

/-- a type has a zero value of so many cells. -/
def zeroOk (P : Program) (e : Nat) (g : Bool) (n : Nat) : Bool := match zeroT P e with
  | some z => match cellsAs g n (.p z) with
    | some _ => true
    | none => false
  | none => false

/-- a slice literal whose elements are all written. -/
def buildSliceOp (P : Program) (b t len : Nat) (parts : List (Nat × AVal)) (s : St) : Option Eff :=
  match elemT P t with
  | some e => match szT P e, aggT P e with
    | some n, some g => match zeroOk P e g n with
      | false => none
      | true => match elemsIn g n 0 parts, Nat.beq parts.length len, Nat.ble (len * n) 16777216 with
      | some vs, true, true => match unP vs with
        | some ps => some (.pure (.cl ps))
        | none => match s.get b with
          | none => some ⟨.arr b 0 0 len true, [b], [(b, .arr n len vs 0 0 0)]⟩
          | some _ => none
      | _, _, _ => none
    | _, _ => none
  | none => none

def allocOp (P : Program) (b t : Nat) (s : St) : Option Eff :=
  match zeroT P t, aggT P t, szT P t with
  | some z, some g, some n => match cellsAs g n (.p z), s.get b with
    | some cs, none => some ⟨.box b 0, [b], [(b, .box cs)]⟩
    | _, _ => none
  | _, _, _ => none

def boxOp (P : Program) (b t : Nat) (v : AVal) (s : St) : Option Eff :=
  match aggT P t, szT P t with
  | some g, some n => match cellsAs g n v, s.get b with
    | some cs, none => some ⟨.box b 0, [b], [(b, .box cs)]⟩
    | _, _ => none
  | _, _ => none

def makeSliceOp (P : Program) (b t : Nat) (len cap : AVal) (s : St) : Option Eff :=
  match elemT P t, natOf len, natOf cap with
  | some e, some l, some c => match szT P e, bytesT P e, zeroT P e, aggT P e with
    | some n, some y, some z, some g => match Nat.ble l c, Nat.ble (c * y) 1099511627776, Nat.ble c 1099511627776, cellsAs g n (.p z), s.get b with
      | true, true, true, some _, none => some ⟨.arr b 0 0 l false, [b], [(b, .arr n l (List.replicate l (.p z)) 0 0 0)]⟩
      | _, _, _, _, _ => none
    | _, _, _, _ => none
  | _, _, _ => none

/-- the elements that are appended. -/
def source (s : St) (x : AVal) : Option (List AVal × List Nat) :=
  match x with
  | .p .nils => some ([], [])
  | .p (.sl ys) => some (ys.map .p, [])
  | .cl ys => some (ys.map .p, [])
  | .p (.str bs) => some (bs.map fun b => .p (.int .u8 (Int.ofNat b)), [])
  | .arr id ep off len _ => match viewed s id ep off len with
    | some xs => some (xs, [id])
    | none => none
  | _ => none

def allCells (g : Bool) (n : Nat) : List AVal → Bool
  | [] => true
  | v :: vs => match cellsAs g n v with
    | some _ => allCells g n vs
    | none => false

def appendOp (P : Program) (b t : Nat) (x y : AVal) (s : St) : Option Eff :=
  match elemT P t with
  | some e => match szT P e, bytesT P e, aggT P e, source s y with
    | some sz, some by_, some g, some (ys, rd) =>
      match allCells g sz ys && zeroOk P e g sz && Nat.blt 0 by_ with
      | false => none
      | true => match x with
        | .p .nils => match ys with
          | [] => some ⟨.p .nils, rd, []⟩
          | _ => match Nat.ble (ys.length * by_) 1099511627776, s.get b with
            | true, none => some ⟨.arr b 0 0 ys.length false, b :: rd, [(b, .arr sz ys.length ys 0 0 0)]⟩
            | _, _ => none
        | .p (.sl xs) => match ys with
          | [] => some ⟨.p (.sl xs), rd, []⟩
          | _ => none
        | .cl xs => match ys with
          | [] => some ⟨.cl xs, rd, []⟩
          | _ => match Nat.ble ((xs.length + ys.length) * by_) 1099511627776, s.get b, allCells g sz (xs.map .p) with
            | true, none, true => some ⟨.arr b 0 0 (xs.length + ys.length) false, b :: rd, [(b, .arr sz (xs.length + ys.length) (xs.map .p ++ ys) 0 0 0)]⟩
            | _, _, _ => none
        | .arr id ep off len c => match s.get id with
          | some (.arr sz' n xs cur lost fz) => match Nat.beq sz sz', Nat.ble lost ep, Nat.ble ((len + ys.length) * by_) 1099511627776, Nat.ble (off + len) n with
            | true, true, true, true => match ys with
              | [] => some ⟨x, id :: rd, []⟩
              | _ => match c with
                | true => match s.get b with
                  | none => some ⟨.arr b 0 0 (len + ys.length) false, b :: id :: rd, [(b, .arr sz (len + ys.length) ((xs.drop off).take len ++ ys) 0 0 0)]⟩
                  | some _ => none
                | false => match off with
                  | 0 => match Nat.beq len n with
                    | true => some ⟨.arr id (cur + 1) 0 (len + ys.length) false, id :: rd, [(id, .arr sz (len + ys.length) (xs ++ ys) (cur + 1) lost fz)]⟩
                    | false => match Nat.ble fz len with
                      | true => some ⟨.arr id (cur + 1) 0 (len + ys.length) false, id :: rd, [(id, .arr sz (len + ys.length) (xs.take len ++ ys) (cur + 1) (cur + 1) fz)]⟩
                      | false => none
                  | _ => none
            | _, _, _, _ => none
          | _ => none
        | _ => none
    | _, _, _, _ => none
  | none => none

def lenOp (P : Program) (t : Nat) (x : AVal) : Option AVal :=
  match P.underlying t with
  | some .string => match x with
    | .p (.str bs) => some (.p (.int .i64 bs.length))
    | _ => none
  | some (.array n _) => some (.p (.int .i64 n))
  | some (.slice _) => match x with
    | .p .nils => some (.p (.int .i64 0))
    | .p (.sl xs) => some (.p (.int .i64 xs.length))
    | .cl xs => some (.p (.int .i64 xs.length))
    | .arr _ _ _ len _ => some (.p (.int .i64 len))
    | _ => none
  | _ => none

def minmax (mx : Bool) : List AVal → Option AVal
  | [] => none
  | .p (.int k a) :: r => go k a r
  | _ => none
where
  go (k : IntKind) (a : Int) : List AVal → Option AVal
    | [] => some (.p (.int k a))
    | .p (.int _ b) :: r => go k (match mx with
      | true => if b > a then b else a
      | false => if b < a then b else a) r
    | _ => none

def ifaceT (P : Program) (t : Nat) : Bool := match P.underlying t with
  | some (.interface _) => true
  | _ => false

def ifOf (x : AVal) : Option (Option (Nat × AVal)) :=
  match x with
  | .p .nili => some none
  | .p (.iface t v) => some (some (t, .p v))
  | .iface t v => some (some (t, v))
  | _ => none

/-- does a dynamic type fit an asserted one? -/
def fitsT (P : Program) (asserted t : Nat) : Option Bool :=
  match P.underlying asserted with
  | some (.interface want) => match P.info? t with
    | some i => match Instr.missingMethod want i.methods with
      | none => some true
      | some _ => some false
    | none => none
  | some _ => some (Nat.beq t asserted)
  | none => none

def fitsD (P : Program) (asserted : Nat) (d : Option (Nat × AVal)) : Option Bool :=
  match d with
  | none => match P.underlying asserted with
    | some _ => some false
    | none => none
  | some (t, _) => fitsT P asserted t

def assertOp (P : Program) (x : AVal) (asserted : Nat) (ok : Bool) : Option AVal :=
  match ifOf x with
  | some d => match fitsD P asserted d with
    | some true => match d with
      | some (_, v) =>
        match ok with
        | true => some (mkTup [match ifaceT P asserted with | true => x | false => v, .p (.bool true)])
        | false => some (match ifaceT P asserted with | true => x | false => v)
      | none => none
    | some false => match ok, zeroT P asserted with
      | true, some z => some (.p (.tup [z, .bool false]))
      | _, _ => none
    | none => none
  | none => none

def extractOp (x : AVal) (i : Nat) : Option AVal :=
  match x with
  | .p (.tup vs) => (nth vs i).map .p
  | .tup vs => nth vs i
  | _ => none

def mkIface (t : Nat) : AVal → AVal
  | .p x => .p (.iface t x)
  | v => .iface t v
def mkFn (f : Fn) (cap : List AVal) : AVal := match unP cap with
  | some ps => .p (.fn f ps)
  | none => .fn f cap

/-! ### Maps, and walks over strings -/
/-- keys of one of the plain kinds, or structs of such. -/
def keyOk (P : Program) (kt : Nat) (k : PVal) : Bool := match P.underlying kt, k with
  | some (.int _), .int _ _ => true
  | some .string, .str _ => true
  | some .bool, .bool _ => true
  | some (.struct fs), .agg cs => fs.toList.all fun f => match f.name == "_", aggT P f.type, P.underlying f.type, nth cs f.offset with
    | false, some false, some (.int _), some _ => true
    | false, some false, some .string, some _ => true
    | false, some false, some .bool, some _ => true
    | _, _, _, _ => false
  | _, _ => false

def keySame (P : Program) (kt : Nat) (k q : PVal) : Option Bool := match k, q with
  | .agg a, .agg b => structEq P kt a b
  | k, q => basicSame (P.underlying kt) k q

/-- where a key is. -/
def findI (P : Program) (kt : Nat) (k : PVal) : Nat → List (PVal × AVal) → Option (Option Nat)
  | _, [] => some none
  | i, (q, _) :: r => match keySame P kt k q with
    | some true => some (some i)
    | some false => findI P kt k (i + 1) r
    | none => none

/-- cell by cell. -/
def allSame : List PVal → List PVal → Bool
  | [], [] => true
  | .int k a :: x, .int k' b :: y => decide (k = k') && a == b && allSame x y
  | .str a :: x, .str b :: y => sameBytes a b && allSame x y
  | .bool a :: x, .bool b :: y => a == b && allSame x y
  | _, _ => false

/-- does the newer key stay, for sure? -/
def staysOk (k q : PVal) : Bool := match k, q with
  | .agg a, .agg b => allSame b a
  | k, q => allSame [q] [k]

def setE (P : Program) (kt : Nat) (k : PVal) (v : AVal) (es : List (PVal × AVal)) : Option (List (PVal × AVal)) :=
  match findI P kt k 0 es with
  | some (some i) => match nth es i with
    | some (q, _) => match staysOk k q with
      | true => some (es.set i (k, v))
      | false => none
    | none => none
  | some none => some (es ++ [(k, v)])
  | none => none

def delE (P : Program) (kt : Nat) (k : PVal) (es : List (PVal × AVal)) : Option (List (PVal × AVal)) :=
  match findI P kt k 0 es with
  | some (some i) => some (es.eraseIdx i)
  | some none => some es
  | none => none

def findE (P : Program) (kt : Nat) (k : PVal) (es : List (PVal × AVal)) : Option (Option AVal) :=
  match findI P kt k 0 es with
  | some (some i) => match nth es i with
    | some (_, v) => some (some v)
    | none => none
  | some none => some none
  | none => none

def mapT (P : Program) (t : Nat) : Option (Nat × Nat) := match P.underlying t with
  | some (.map k e) => some (k, e)
  | _ => none

/-- the entries of a map. -/
def entriesOf (s : St) (x : AVal) : Option (List (PVal × AVal) × List Nat) := match x with
  | .p .nilm => some ([], [])
  | .rf .mp id => match s.get id with
    | some (.ho (.mp es)) => some (es, [id])
    | _ => none
  | _ => none

def lookupOp (P : Program) (s : St) (t : Nat) (x k : AVal) (ok : Bool) : Option Eff :=
  match mapT P t, k with
  | some (kt, et), .p kp => match keyOk P kt kp, entriesOf s x with
    | true, some (es, rd) => match findE P kt kp es with
      | some (some v) => match ok with
        | true => some ⟨mkTup [v, .p (.bool true)], rd, []⟩
        | false => some ⟨v, rd, []⟩
      | some none => match zeroT P et with
        | some z => match ok with
          | true => some ⟨.p (.tup [z, .bool false]), rd, []⟩
          | false => some ⟨.p z, rd, []⟩
        | none => none
      | none => none
    | _, _ => none
  | _, _ => none

def makeMapOp (b : Nat) (s : St) : Option Eff := match s.get b with
  | none => some ⟨.rf .mp b, [b], [(b, .ho (.mp []))]⟩
  | some _ => none

def mapUpdateOp (P : Program) (s : St) (t : Nat) (x k v : AVal) : Option Eff :=
  match mapT P t, k, x with
  | some (kt, _), .p kp, .rf .mp id => match keyOk P kt kp, s.get id with
    | true, some (.ho (.mp es)) => match setE P kt kp v es with
      | some es' => some ⟨.p (.tup []), [id], [(id, .ho (.mp es'))]⟩
      | none => none
    | _, _ => none
  | _, _, _ => none

def deleteOp (P : Program) (s : St) (t : Nat) (x k : AVal) : Option Eff :=
  match mapT P t, k, x with
  | some (kt, _), .p kp, .rf .mp id => match keyOk P kt kp, s.get id with
    | true, some (.ho (.mp es)) => match delE P kt kp es with
      | some es' => some ⟨.p (.tup []), [id], [(id, .ho (.mp es'))]⟩
      | none => none
    | _, _ => none
  | _, _, _ => none

def rangeOp (P : Program) (b t : Nat) (x : AVal) (s : St) : Option Eff :=
  match P.underlying t, x, s.get b with
  | some .string, .p (.str bs), none => some ⟨.rf .it b, [b], [(b, .ho (.it bs 0))]⟩
  | _, _, _ => none

def nextOp (s : St) (x : AVal) (isString : Bool) : Option Eff :=
  match x, isString with
  | .rf .it id, true => match s.get id with
    | some (.ho (.it bs pos)) => match bs with
      | [] => some ⟨.p (.tup [.bool false]), [id], []⟩
      | c :: r => match Nat.blt c 128 with
        | true => some ⟨.p (.tup [.bool true, .int .i64 (Int.ofNat pos), .int .i32 (Int.ofNat c)]), [id], [(id, .ho (.it r (pos + 1)))]⟩
        | false => none
    | _ => none
  | _, _ => none

/-- bytes. -/
def bytesOf : List AVal → Option (List Nat)
  | [] => some []
  | .p (.int .u8 n) :: r => match bytesOf r with
    | some l => some (Nat.mod n.toNat 256 :: l)
    | none => none
  | _ :: _ => none

/-- a slice of bytes, as a string. -/
def convBytes (P : Program) (s : St) (src dst : Nat) (x : AVal) : Option Eff :=
  match P.underlying src, P.underlying dst with
  | some (.slice e), some .string => match P.underlying e, x with
    | some (.int .u8), .p (.sl ys) => match bytesOf (ys.map .p) with
      | some l => some (.pure (.p (.str l)))
      | none => none
    | some (.int .u8), .cl ys => match bytesOf (ys.map .p) with
      | some l => some (.pure (.p (.str l)))
      | none => none
    | some (.int .u8), .p .nils => some (.pure (.p (.str [])))
    | some (.int .u8), .arr id ep off len _ => match viewed s id ep off len with
      | some ys => match bytesOf ys with
        | some l => some ⟨.p (.str l), [id], []⟩
        | none => none
      | none => none
    | _, _ => none
  | _, _ => none

/-- clearing what is empty. -/
def clearOp (P : Program) (t : Nat) (x : AVal) : Option AVal :=
  match P.underlying t with
  | some (.slice _) => match x with
    | .p .nils => some (.p (.tup []))
    | .p (.sl []) => some (.p (.tup []))
    | .cl [] => some (.p (.tup []))
    | .arr _ _ _ 0 _ => some (.p (.tup []))
    | _ => none
  | _ => none

/-- temporaries from there on stand for package-level variables. -/
def glBase : Nat := 4096

def operand (tm : Tr AVal) : Operand → Option AVal
  | .tmp t => match Nat.blt t glBase with
    | true => tm.get t
    | false => none
  | .const v => (ofValue v).map .p
  | .func f => some (.p (.fn (.func f) []))
  | .global g => tm.get (glBase + g)

def operands (tm : Tr AVal) : List Operand → Option (List AVal)
  | [] => some []
  | o :: r => match operand tm o, operands tm r with
    | some v, some vs => some (v :: vs)
    | _, _ => none

def operandParts (tm : Tr AVal) : List (Nat × Operand) → Option (List (Nat × AVal))
  | [] => some []
  | (i, o) :: r => match operand tm o, operandParts tm r with
    | some v, some vs => some ((i, v) :: vs)
    | _, _ => none

def operand? (tm : Tr AVal) : Option Operand → Option (Option AVal)
  | none => some none
  | some o => match operand tm o with
    | some v => some (some v)
    | none => none

def someP (x : Option AVal) : Option Eff := match x with
  | some v => some (.pure v)
  | none => none

/-- a type that is no integer type. -/
def notInt (P : Program) (t : Nat) : Bool := match P.underlying t with
  | some (.int _) => false
  | some _ => true
  | none => false

/-- an operation that calls no function. b: a name that is free. -/
def plainOp (P : Program) (tm : Tr AVal) (s : St) (b : Nat) (op : Op) : Option Eff :=
  match op with
  | .move x => someP (operand tm x)
  | .assign x => someP (operand tm x)
  | .pick c x y => match operand tm c with
    | some (.p (.bool true)) => someP (operand tm x)
    | some (.p (.bool false)) => someP (operand tm y)
    | _ => none
  | .alloc t => allocOp P b t s
  | .box t x => match operand tm x with
    | some v => boxOp P b t v s
    | none => none
  | .build t parts => match operandParts tm parts.toList with
    | some ps => someP (buildOp P t ps)
    | none => none
  | .buildSlice t len parts => match operandParts tm parts.toList with
    | some ps => buildSliceOp P b t len ps s
    | none => none
  | .load t x => match operand tm x with
    | some v => loadOp P s t v
    | none => none
  | .store t x y => match operand tm x, operand tm y with
    | some v, some u => storeOp P s t v u
    | _, _ => none
  | .nilCheck x => match operand tm x with
    | some v => match nilPt v with
      | some false => some (.pure v)
      | _ => none
    | none => none
  | .binOp op t x y _ => match operand tm x, operand tm y with
    | some v, some u => someP (binary P op t x y v u)
    | _, _ => none
  | .unOp op _ x => match operand tm x with
    | some v => someP (unary op v)
    | none => none
  | .convert src dst x => match operand tm x with
    | some v => match conv P src dst v with
      | some z => some (.pure z)
      | none => convBytes P s src dst v
    | none => none
  | .makeMap _ none => makeMapOp b s
  | .lookup t x k ok => match operand tm x, operand tm k with
    | some v, some u => lookupOp P s t v u ok
    | _, _ => none
  | .mapUpdate t m k x => match operand tm m, operand tm k, operand tm x with
    | some v, some u, some y => mapUpdateOp P s t v u y
    | _, _, _ => none
  | .range t x => match operand tm x with
    | some v => rangeOp P b t v s
    | none => none
  | .next x isString => match operand tm x with
    | some v => nextOp s v isString
    | none => none
  | .makeInterface t x => match operand tm x, ifaceT P t, (P.underlying t).isSome with
    | some v, false, true => some (.pure (mkIface t v))
    | _, _, _ => none
  | .makeFunc (.func f) first cap => match first.toList, operands tm cap.toList with
    | [], some vs => some (.pure (mkFn (.func f) vs))
    | _, _ => none
  | .makeSlice t l c => match operand tm l, operand tm c with
    | some l, some c => makeSliceOp P b t l c s
    | _, _ => none
  | .slice t x lo hi mx => match operand tm x, operand? tm lo, operand? tm hi, operand? tm mx with
    | some v, some lo, some hi, some mx => sliceOp P s t v lo hi mx
    | _, _, _, _ => none
  | .fieldAddr t x f => match operand tm x with
    | some v => someP (fieldAddrOp P t f v)
    | none => none
  | .field t x f => match operand tm x with
    | some v => someP (fieldOp P t f v)
    | none => none
  | .indexAddr t x i => match operand tm x, operand tm i with
    | some v, some i => indexAddrOp P s t v i
    | _, _ => none
  | .index t x i => match operand tm x, operand tm i with
    | some v, some i => someP (indexOp P t v i)
    | _, _ => none
  | .typeAssert x _ a ok => match operand tm x with
    | some v => someP (assertOp P v a ok)
    | none => none
  | .extract x i => match operand tm x with
    | some v => someP (extractOp v i)
    | none => none
  | .call { callee := .builtin .len, args, argTypes } => match args.toList, argTypes.toList with
    | [x], [t] => match operand tm x with
      | some v => someP (lenOp P t v)
      | none => none
    | _, _ => none
  | .call { callee := .builtin .append, args, argTypes } => match args.toList, argTypes.toList with
    | [x, y], [t, t2] => match operand tm x, operand tm y, notInt P t2 with
      | some v, some u, true => appendOp P b t v u s
      | _, _, _ => none
    | _, _ => none
  | .call { callee := .builtin .delete, args, argTypes } => match args.toList, argTypes.toList with
    | [x, y], [t, _] => match operand tm x, operand tm y with
      | some v, some u => deleteOp P s t v u
      | _, _ => none
    | _, _ => none
  | .call { callee := .builtin .clear, args, argTypes } => match args.toList, argTypes.toList with
    | [x], [t] => match operand tm x with
      | some v => someP (clearOp P t v)
      | none => none
    | _, _ => none
  | .call { callee := .builtin .min, args, .. } => match operands tm args.toList with
    | some vs => someP (minmax false vs)
    | none => none
  | .call { callee := .builtin .max, args, .. } => match operands tm args.toList with
    | some vs => someP (minmax true vs)
    | none => none
  | _ => none

end Go.Proofs.YtceccojmekpneaaGreatDoor.Sw
