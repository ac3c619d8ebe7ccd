/- A verified evaluator over the code that the model runs, and a machine over it for runs with unknown values: their words, their operations, and what they stand for. -/
import Derived.CallsIn
import Derived.OrdersIn
import Derived.RangeFuncIn
import Derived.DefersIn
import Derived.RecoverIn
import Derived.Below
import Derived.Orders
import Derived.Laws.Sem
import Derived.Laws.Strings
import Derived.Laws.StructEq
import Derived.ChangeKeysEq
import Derived.Laws.AppendOwn
import Derived.Laws.Bits64
set_option linter.unusedVariables false
set_option linter.unusedSimpArgs false
set_option linter.unusedSectionVars false
namespace Go.Proofs.YtdnbnpknpejpdaaGreatDoor.Sw
inductive PVal where
  | bool (b:Bool)
  | int (k:IntKind) (n:Int)
  | str (s:List Nat)
  | nilp | nils | nilm | nilf | nili
  | agg (cs:List PVal)
  | tup (vs:List PVal)
  | iface (t:Nat) (v:PVal)
  | sl (xs:List PVal)
  | ip (v:PVal)
  | fn (f:Fn) (cap:List PVal)
  deriving Inhabited
inductive Rk where
  | mp | it | yld
  deriving DecidableEq,Inhabited
inductive AVal where
  | p (x:PVal)
  | agg (cs:List AVal)
  | tup (vs:List AVal)
  | iface (t:Nat) (v:AVal)
  | cl (xs:List PVal)
  | own (sz:Nat) (xs:List PVal)
  | ownm (es:List (PVal × PVal))
  | box (id off:Nat)
  | arr (id ep off len:Nat) (capd:Bool)
  | el (id ep i off:Nat)
  | fn (f:Fn) (cap:List AVal)
  | fnb (f:Fn) (first:List AVal)
  | rf (k:Rk) (id:Nat)
  | junk
  deriving Inhabited
inductive Tr (α:Type) where
  | lf
  | nd (v:Option α) (l r:Tr α)
inductive HObj where
  | mp (es:List (PVal × AVal))
  | it (s:List Nat) (pos:Nat)
  | lp (tm:Tr AVal) (n:Nat) (ps:List Nat) (assign body:Code) (st:LoopState) (pend:Option Code)
  | dl (isOpen:Bool)
  deriving Inhabited
inductive Obj where
  | box (cs:List AVal)
  | arr (sz n:Nat) (xs:List AVal) (ep lost fz:Nat)
  | ho (h:HObj)
  deriving Inhabited
def bits:Nat→Nat→List Bool
  | 0,_=>[]
  | f + 1,m=>match m with
    | 0=>[]
    | m + 1=>(Nat.beq (Nat.mod (m + 1) 2) 0) :: bits f (Nat.div m 2)
def path (n:Nat):List Bool:=bits n n
def Tr.find {α:Type}:List Bool→Tr α→Option α
  | [], .nd v _ _=>v
  | b :: p, .nd _ l r=>match b with
    | true=>Tr.find p l
    | false=>Tr.find p r
  | _, .lf=>none
def Tr.put {α:Type} (x:α):List Bool→Tr α→Tr α
  | [], .nd _ l r=>.nd (some x) l r
  | [], .lf=>.nd (some x) .lf .lf
  | b :: p, .nd v l r=>match b with
    | true=>.nd v (Tr.put x p l) r
    | false=>.nd v l (Tr.put x p r)
  | b :: p, .lf=>match b with
    | true=>.nd none (Tr.put x p .lf) .lf
    | false=>.nd none .lf (Tr.put x p .lf)
def Tr.get {α:Type} (t:Tr α) (n:Nat):Option α:=t.find (path n)
def Tr.set {α:Type} (t:Tr α) (n:Nat) (x:α):Tr α:=t.put x (path n)
inductive Log where
  | e
  | op (rd:List Nat) (wr:List (Nat × Obj)) (l:Log)
  | call (l1 l:Log)
def Log.rdOf:Log→List Nat
  | .e=>[]
  | .op rd _ l=>rd ++ l.rdOf
  | .call a l=>a.rdOf ++ l.rdOf
def Log.flat:Log→List (Nat × Obj)
  | .e=>[]
  | .op _ wr l=>l.flat ++ wr
  | .call a l=>l.flat ++ a.flat
structure St where
  next:Nat
  objs:Tr Obj
  log:Log:=.e
def St.get (s:St) (id:Nat):Option Obj:=s.objs.get id
def St.set (s:St) (id:Nat) (o:Obj):St:={ s with objs:=s.objs.set id o }
def St.empty:St:={ next:=0,objs:=.lf }
def St.sets (s:St):List (Nat × Obj)→St
  | []=>s
  | (i,o) :: r=>(s.set i o).sets r
def St.did (s:St) (rd:List Nat) (wr:List (Nat × Obj)):St:={ s.sets wr with log:=.op rd wr s.log }
def scalar:Value→Option PVal
  | .bool b=>some (.bool b)
  | .int k n=>some (.int k n)
  | .string s=>some (.str (s.data.toList.map UInt8.toNat))
  | .pointer none=>some .nilp
  | .slice none 0 0=>some .nils
  | .map none=>some .nilm
  | .nilFunc=>some .nilf
  | .nilIface=>some .nili
  | _=>none
def scalars:List Value→Option (List PVal)
  | []=>some []
  | v :: vs=>match scalar v,scalars vs with
    | some x,some xs=>some (x :: xs)
    | _,_=>none
def ofValue:Value→Option PVal
  | .agg cs=>(scalars cs.toList).map .agg
  | .tuple vs=>if vs.isEmpty then some (.tup []) else none
  | v=>scalar v
def isAggP (x:PVal):Bool:=match x with | .agg _=>true | _=>false
def aggT (P:Program) (t:Nat):Option Bool:=match P.underlying t with
  | some (.struct _)=>some true
  | some (.array _ _)=>some true
  | some _=>some false
  | none=>none
def szT (P:Program) (t:Nat):Option Nat:=(P.info? t).map (·.size)
def bytesT (P:Program) (t:Nat):Option Nat:=(P.info? t).map (·.bytes)
def zeroT (P:Program) (t:Nat):Option PVal:=match P.info? t with
  | some i=>match i.zero with
    | some v=>ofValue v
    | none=>none
  | none=>none
def fieldT (P:Program) (t f:Nat):Option Field:=match P.underlying t with
  | some (.struct fs)=>fs[f]?
  | _=>none
def elemT (P:Program) (t:Nat):Option Nat:=match P.underlying t with
  | some (.slice e)=>some e
  | _=>none
def unP:List AVal→Option (List PVal)
  | []=>some []
  | .p x :: r=>match unP r with
    | some xs=>some (x :: xs)
    | none=>none
  | _ :: _=>none
def mkAgg (cs:List AVal):AVal:=match unP cs with
  | some ps=>.p (.agg ps)
  | none=>.agg cs
def mkTup (cs:List AVal):AVal:=match unP cs with
  | some ps=>.p (.tup ps)
  | none=>.tup cs
def cells:AVal→List AVal
  | .p (.agg cs)=>cs.map .p
  | .agg cs=>cs
  | v=>[v]
def cellsP:PVal→List PVal
  | .agg cs=>cs
  | v=>[v]
def nth {α:Type}:List α→Nat→Option α
  | [],_=>none
  | x :: _,0=>some x
  | _ :: r,n + 1=>nth r n
def part (agg:Bool) (cs:List AVal) (off n:Nat):Option AVal :=
  match agg with
  | true=>match Nat.ble (off + n) cs.length with
    | true=>some (mkAgg ((cs.drop off).take n))
    | false=>none
  | false=>nth cs off
def partP (agg:Bool) (cs:List PVal) (off n:Nat):Option PVal :=
  match agg with
  | true=>match Nat.ble (off + n) cs.length with
    | true=>some (.agg ((cs.drop off).take n))
    | false=>none
  | false=>nth cs off
def aaT (cs:List AVal) (off:Nat) (new:List AVal):Option (List AVal) :=
  match Nat.ble (off + new.length) cs.length with
  | true=>some (cs.take off ++ new ++ cs.drop (off + new.length))
  | false=>none
def setNth {α:Type}:List α→Nat → α→Option (List α)
  | [],_,_=>none
  | _ :: r,0,y=>some (y :: r)
  | x :: r,n + 1,y=>match setNth r n y with
    | some r'=>some (x :: r')
    | none=>none
def purs (pur:AVal→Option (PVal × List Nat)):List AVal→Option (List PVal × List Nat)
  | []=>some ([],[])
  | v :: vs=>match pur v,purs pur vs with
    | some (x,a),some (xs,b)=>some (x :: xs,a ++ b)
    | _,_=>none
def viewed (s:St) (id ep off len:Nat):Option (List AVal) :=
  match s.get id with
  | some (.arr _ n xs _ lost _) =>
    match Nat.ble lost ep,Nat.ble (off + len) n with
    | true,true=>some ((xs.drop off).take len)
    | _,_=>none
  | _=>none
def ipOf (cs:List PVal):PVal:=match cs with
  | [c]=>c
  | cs=>.agg cs
def pur (s:St):Nat→AVal→Option (PVal × List Nat)
  | 0,_=>none
  | d + 1,v=>match v with
    | .p x=>some (x,[])
    | .cl xs=>some (.sl xs,[])
    | .agg cs=>(purs (pur s d) cs).map fun (xs,a)=>(.agg xs,a)
    | .tup cs=>(purs (pur s d) cs).map fun (xs,a)=>(.tup xs,a)
    | .iface t v=>(pur s d v).map fun (x,a)=>(.iface t x,a)
    | .fn f cap=>(purs (pur s d) cap).map fun (xs,a)=>(.fn f xs,a)
    | .arr id ep off len _=>match viewed s id ep off len with
      | some xs=>(purs (pur s d) xs).map fun (ys,a)=>(.sl ys,id :: a)
      | none=>none
    | .box id 0=>match s.get id with
      | some (.box cs)=>(purs (pur s d) cs).map fun (ys,a)=>(.ip (ipOf ys),id :: a)
      | _=>none
    | _=>none
end Go.Proofs.YtdnbnpknpejpdaaGreatDoor.Sw
namespace Go.Proofs.YtdnbnpknpejpdaaGreatDoor.Sw
def bytesLess:List Nat→List Nat→Bool
  | _,[]=>false
  | [],_ :: _=>true
  | a :: x,b :: y=>match Nat.blt a b with
    | true=>true
    | false=>match Nat.beq a b with
      | true=>bytesLess x y
      | false=>false
def aaC:List Nat→List Nat→Bool
  | [],[]=>true
  | a :: x,b :: y=>match Nat.beq a b with
    | true=>aaC x y
    | false=>false
  | _,_=>false
def intBin (op:BinOp) (k:IntKind) (a b:Int):Option PVal :=
  match op with
  | .add=>some (.int k (k.wrap (a + b)))
  | .sub=>some (.int k (k.wrap (a - b)))
  | .mul=>some (.int k (k.wrap (a * b)))
  | .quo=>if b=0 then none else some (.int k (k.wrap (a.tdiv b)))
  | .rem=>if b=0 then none else some (.int k (a.tmod b))
  | .and=>some (.int k (k.wrap (BitVec.ofInt k.bits a &&& BitVec.ofInt k.bits b).toNat))
  | .or=>some (.int k (k.wrap (BitVec.ofInt k.bits a ||| BitVec.ofInt k.bits b).toNat))
  | .xor=>some (.int k (k.wrap (BitVec.ofInt k.bits a ^^^ BitVec.ofInt k.bits b).toNat))
  | .andNot=>some (.int k (k.wrap (BitVec.ofInt k.bits a &&& ~~~(BitVec.ofInt k.bits b)).toNat))
  | .eql=>some (.bool (a == b))
  | .neq=>some (.bool (a != b))
  | .lss=>some (.bool (decide (a < b)))
  | .leq=>some (.bool (decide (a≤b)))
  | .gtr=>some (.bool (decide (a > b)))
  | .geq=>some (.bool (decide (a ≥ b)))
  | _=>none
def ahn (op:BinOp) (k:IntKind) (a b:Int):Option PVal :=
  if b < 0 then none else
  match op with
  | .shl=>some (.int k (k.wrap (a * 2 ^ (min b.toNat k.bits))))
  | .shr=>some (.int k (a.fdiv (2 ^ (min b.toNat k.bits))))
  | _=>none
def strBin (op:BinOp) (a b:List Nat):Option PVal :=
  match op with
  | .add=>match Nat.ble (a.length + b.length) 1099511627776 with
    | true=>some (.str (a ++ b))
    | false=>none
  | .eql=>some (.bool (aaC a b))
  | .neq=>some (.bool (!aaC a b))
  | .lss=>some (.bool (bytesLess a b))
  | .leq=>some (.bool (bytesLess a b || aaC a b))
  | .gtr=>some (.bool (!(bytesLess a b || aaC a b)))
  | .geq=>some (.bool (!bytesLess a b))
  | _=>none
def nilSl:AVal→Option Bool
  | .p .nils=>some true
  | .p (.sl _)=>some false
  | .cl _=>some false
  | .arr ..=>some false
  | _=>none
def nilPt:AVal→Option Bool
  | .p .nilp=>some true
  | .p (.ip _)=>some false
  | .box ..=>some false
  | .el ..=>some false
  | _=>none
def nilMp:AVal→Option Bool
  | .p .nilm=>some true
  | .rf .mp _=>some false
  | _=>none
def nilFn:AVal→Option Bool
  | .p .nilf=>some true
  | .p (.fn ..)=>some false
  | .fn ..=>some false
  | .fnb ..=>some false
  | .rf .yld _=>some false
  | _=>none
def nilIf:AVal→Option Bool
  | .p .nili=>some true
  | .p (.iface ..)=>some false
  | .iface ..=>some false
  | _=>none
def nilEq:Option Bool→Option Bool→Option Bool
  | some true,some b=>some b
  | some false,some true=>some false
  | _,_=>none
def eqv (P:Program) (t:Nat) (x y:AVal):Option Bool :=
  match P.underlying t with
  | some .bool=>match x,y with
    | .p (.bool a), .p (.bool b)=>some (a == b)
    | _,_=>none
  | some (.slice _)=>nilEq (nilSl x) (nilSl y)
  | some (.pointer _)=>nilEq (nilPt x) (nilPt y)
  | some (.map _ _)=>nilEq (nilMp x) (nilMp y)
  | some (.func _ _ _)=>nilEq (nilFn x) (nilFn y)
  | some (.interface _)=>nilEq (nilIf x) (nilIf y)
  | _=>none
def ab9 (d:Option TypeDesc) (x y:PVal):Option Bool :=
  match d,x,y with
  | some (.int _), .int k a, .int k' b=>match decide (k=k') with
    | true=>some (a == b)
    | false=>none
  | some .string, .str a, .str b=>some (aaC a b)
  | some .bool, .bool a, .bool b=>some (a == b)
  | _,_,_=>none
def ac1 (P:Program):List Field→List PVal→List PVal→Option Bool
  | [],_,_=>some true
  | f :: fs,a,b=>match f.name == "_",aggT P f.type,nth a f.offset,nth b f.offset with
    | false,some false,some x,some y=>match ab9 (P.underlying f.type) x y with
      | some true=>ac1 P fs a b
      | r=>r
    | _,_,_,_=>none
def aie (P:Program) (e c:Nat) (a b:List PVal):Nat→Nat→Option Bool
  | _,0=>some true
  | i,k + 1=>match nth a (i * c),nth b (i * c) with
    | some x,some y=>match ab9 (P.underlying e) x y with
      | some true=>aie P e c a b (i + 1) k
      | r=>r
    | _,_=>none
def structEq (P:Program) (t:Nat) (a b:List PVal):Option Bool :=
  match P.underlying t with
  | some (.array n e)=>match aggT P e,szT P e with
    | some false,some c=>aie P e c a b 0 n
    | _,_=>none
  | some (.struct fs)=>match P.stoodInHeld t with
    | false=>ac1 P fs.toList a b
    | true=>none
  | _=>none
def isConst:Operand→Bool
  | .const _=>true
  | _=>false
def afS:AVal→AVal→Bool
  | .p .nili, .p .nili=>true
  | _,_=>false
def binary (P:Program) (op:BinOp) (t:Nat) (ox oy:Operand) (x y:AVal):Option AVal :=
  match x,y with
  | .p (.int k a), .p (.int k' b)=>match op with
    | .shl=>(ahn op k a b).map .p
    | .shr=>(ahn op k a b).map .p
    | _=>if k=k' then (intBin op k a b).map .p else none
  | .p (.str a), .p (.str b)=>(strBin op a b).map .p
  | .p (.agg a), .p (.agg b)=>match op,P.eqGuardType P.depth t with
    | .eql,false=>(structEq P t a b).map fun b=>.p (.bool b)
    | .neq,false=>(structEq P t a b).map fun b=>.p (.bool (!b))
    | _,_=>none
  | x,y=>match op with
    | .eql=>match afS x y && !(isConst ox || isConst oy) with
      | true=>none
      | false=>(eqv P t x y).map fun b=>.p (.bool b)
    | .neq=>match afS x y && !(isConst ox || isConst oy) with
      | true=>none
      | false=>(eqv P t x y).map fun b=>.p (.bool (!b))
    | _=>none
def unary (op:UnOp) (x:AVal):Option AVal :=
  match op,x with
  | .neg, .p (.int k n)=>some (.p (.int k (k.wrap (0 - n))))
  | .not, .p (.bool b)=>some (.p (.bool (!b)))
  | .xor, .p (.int k n)=>(intBin .xor k (if k.signed then -1 else k.max) n).map .p
  | _,_=>none
def conv (P:Program) (src dst:Nat) (x:AVal):Option AVal :=
  match P.underlying dst,x with
  | some (.int k), .p (.int _ n)=>match P.underlying src with
    | some (.int _)=>some (.p (.int k (k.wrap n)))
    | _=>none
  | some .string, .p (.str s)=>match P.underlying src with
    | some .string=>some (.p (.str s))
    | _=>none
  | some .string, .p (.int _ (.ofNat n))=>match P.underlying src,Nat.blt n 128 with
    | some (.int _),true=>some (.p (.str [n]))
    | _,_=>none
  | _,_=>none
structure Eff where
  v:AVal
  rd:List Nat
  wr:List (Nat × Obj)
def Eff.pure (v:AVal):Eff:=⟨v,[],[]⟩
def at_ (s:St) (x:AVal):Option (List AVal × Nat × List Nat) :=
  match x with
  | .box id off=>match s.get id with
    | some (.box cs)=>some (cs,off,[id])
    | _=>none
  | .el id ep i off=>match s.get id with
    | some (.arr _ _ xs _ lost _)=>match Nat.ble lost ep with
      | true=>match nth xs i with
        | some .junk=>none
        | some e=>some (cells e,off,[id])
        | none=>none
      | false=>none
    | _=>none
  | _=>none
def loadOp (P:Program) (s:St) (t:Nat) (x:AVal):Option Eff :=
  match aggT P t,szT P t with
  | some g,some n=>match x with
    | .p (.ip v)=>match g with
      | true=>match v with
        | .agg cs=>match Nat.beq cs.length n with
          | true=>some (.pure (.p v))
          | false=>none
        | _=>none
      | false=>match v with
        | .agg _=>none
        | _=>some (.pure (.p v))
    | _=>match at_ s x with
      | some (cs,off,ids)=>(part g cs off n).map fun v=>⟨v,ids,[]⟩
      | none=>none
  | _,_=>none
def aa3 (g:Bool) (n:Nat) (v:AVal):Option (List AVal) :=
  match g with
  | true=>match v with
    | .p (.agg cs)=>match Nat.beq cs.length n with
      | true=>some (cs.map .p)
      | false=>none
    | .agg cs=>match Nat.beq cs.length n with
      | true=>some cs
      | false=>none
    | _=>none
  | false=>match v with
    | .p (.agg _)=>none
    | .agg _=>none
    | .p (.tup _)=>none
    | .tup _=>none
    | .own _ _=>none
    | .ownm _=>none
    | .junk=>none
    | _=>match Nat.beq n 1 with
      | true=>some [v]
      | false=>none
def reform (e:AVal) (cs:List AVal):AVal :=
  match e with
  | .p (.agg _)=>mkAgg cs
  | .agg _=>mkAgg cs
  | _=>cs.headD .junk
def ac0 (P:Program) (s:St) (t:Nat) (x v:AVal):Option Eff :=
  match aggT P t,szT P t with
  | some g,some n=>match aa3 g n v with
    | some new=>match x with
      | .box id off=>match s.get id with
        | some (.box cs)=>(aaT cs off new).map fun cs'=>⟨.p (.tup []),[id],[(id, .box cs')]⟩
        | _=>none
      | .el id ep i off=>match s.get id with
        | some (.arr sz m xs ep' _ fz)=>match Nat.beq ep ep',Nat.ble fz i with
          | true,true=>match nth xs i with
            | some .junk=>none
            | some e=>match aaT (cells e) off new with
              | some cs'=>match setNth xs i (reform e cs') with
                | some xs'=>some ⟨.p (.tup []),[id],[(id, .arr sz m xs' ep' ep' fz)]⟩
                | none=>none
              | none=>none
            | none=>none
          | _,_=>none
        | _=>none
      | _=>none
    | none=>none
  | _,_=>none
def ad3 (P:Program) (t f:Nat) (x:AVal):Option AVal :=
  match fieldT P t f with
  | some fd=>match szT P fd.type,aggT P fd.type with
    | some n,some g=>match n with
      | 0=>none
      | _=>match x with
        | .box id off=>some (.box id (off + fd.offset))
        | .el id ep i off=>some (.el id ep i (off + fd.offset))
        | .p (.ip (.agg cs))=>(partP g cs fd.offset n).map fun v=>.p (.ip v)
        | _=>none
    | _,_=>none
  | none=>none
def partV (g:Bool) (x:AVal) (off n:Nat):Option AVal :=
  match x with
  | .p (.agg cs)=>(partP g cs off n).map .p
  | .agg cs=>part g cs off n
  | _=>none
def ap2 (P:Program) (t f:Nat) (x:AVal):Option AVal :=
  match fieldT P t f with
  | some fd=>match szT P fd.type,aggT P fd.type with
    | some n,some g=>partV g x fd.offset n
    | _,_=>none
  | none=>none
def natOf (x:AVal):Option Nat :=
  match x with
  | .p (.int _ (.ofNat n))=>some n
  | _=>none
def abN (P:Program) (s:St) (t:Nat) (x i:AVal):Option Eff :=
  match natOf i with
  | some n=>match P.underlying t with
    | some (.slice e)=>match szT P e with
      | some sz=>match x with
        | .p (.sl xs)=>match nth xs n with
          | some v=>match Nat.beq (cellsP v).length sz with
            | true=>some (.pure (.p (.ip v)))
            | false=>none
          | none=>none
        | .cl xs=>match nth xs n with
          | some v=>match Nat.beq (cellsP v).length sz with
            | true=>some (.pure (.p (.ip v)))
            | false=>none
          | none=>none
        | .arr id ep off len _=>match s.get id with
          | some (.arr sz' _ _ _ lost _)=>match Nat.blt n len,Nat.beq sz sz',Nat.ble lost ep with
            | true,true,true=>some ⟨.el id ep (off + n) 0,[id],[]⟩
            | _,_,_=>none
          | _=>none
        | _=>none
      | none=>none
    | some (.array len e)=>match szT P e with
      | some sz=>match Nat.blt n len with
        | true=>match x with
          | .box id off=>some (.pure (.box id (off + n * sz)))
          | .el id ep j off=>some (.pure (.el id ep j (off + n * sz)))
          | .p (.ip (.agg cs))=>match aggT P e with
            | some g=>(partP g cs (n * sz) sz).map fun v=>.pure (.p (.ip v))
            | none=>none
          | _=>none
        | false=>none
      | none=>none
    | _=>none
  | none=>none
def apv (P:Program) (t:Nat) (x i:AVal):Option AVal :=
  match natOf i with
  | some n=>match P.underlying t with
    | some .string=>match x with
      | .p (.str bs)=>(nth bs n).map fun b=>.p (.int .u8 (Int.ofNat b))
      | _=>none
    | some (.array len e)=>match szT P e,aggT P e with
      | some sz,some g=>match Nat.blt n len with
        | true=>partV g x (n * sz) sz
        | false=>none
      | _,_=>none
    | _=>none
  | none=>none
def bound (x:Option AVal) (d:Nat):Option Nat :=
  match x with
  | none=>some d
  | some v=>natOf v
def cut (lo hi mx:Option AVal) (len:Nat):Option (Nat × Nat × Bool) :=
  match bound lo 0,bound hi len with
  | some l,some h=>match Nat.ble l h,Nat.ble h len with
    | true,true=>match mx with
      | none=>some (l,h,false)
      | some m=>match natOf m,hi with
        | some m,some _=>match Nat.beq m h with
          | true=>some (l,h,true)
          | false=>none
        | _,_=>none
    | _,_=>none
  | _,_=>none
def wide (sz:Nat):List PVal→Bool
  | []=>true
  | x :: _=>Nat.beq (cellsP x).length sz
def afd (P:Program) (s:St) (t:Nat) (x:AVal) (lo hi mx:Option AVal):Option Eff :=
  match P.underlying t with
  | some .string=>match x,mx with
    | .p (.str bs),none=>match cut lo hi none bs.length with
      | some (l,h,_)=>some (.pure (.p (.str ((bs.drop l).take (h - l)))))
      | none=>none
    | _,_=>none
  | some (.slice e)=>match szT P e with
    | some sz=>match x with
      | .p .nils=>match cut lo hi mx 0 with
        | some _=>some (.pure (.p .nils))
        | none=>none
      | .p (.sl xs)=>match cut lo hi mx xs.length,wide sz xs with
        | some (l,h,c),true=>match c with
          | false=>some (.pure (.p (.sl ((xs.drop l).take (h - l)))))
          | true=>some (.pure (.cl ((xs.drop l).take (h - l))))
        | _,_=>none
      | .cl xs=>match cut lo hi mx xs.length,wide sz xs with
        | some (l,h,c),true=>match c with
          | false=>some (.pure (.p (.sl ((xs.drop l).take (h - l)))))
          | true=>some (.pure (.cl ((xs.drop l).take (h - l))))
        | _,_=>none
      | .arr id ep off len c=>match cut lo hi mx len,s.get id with
        | some (l,h,c'),some (.arr sz' _ _ _ _ _)=>match Nat.beq sz sz' with
          | true=>match Nat.beq l h,c' with
            | true,true=>some ⟨.cl [],[id],[]⟩
            | true,false=>match l,c with
              | 0,false=>some ⟨.arr id ep off 0 false,[id],[]⟩
              | _,_=>some ⟨.p (.sl []),[id],[]⟩
            | false,true=>some ⟨.arr id ep (off + l) (h - l) true,[id],[]⟩
            | false,false=>match c && !Nat.beq h len with
              | true=>none
              | false=>some ⟨.arr id ep (off + l) (h - l) c,[id],[]⟩
          | false=>none
        | _,_=>none
      | _=>none
    | none=>none
  | _=>none
def ac6 (P:Program) (fs:Array Field) (cs:List AVal):List (Nat × AVal)→Option (List AVal)
  | []=>some cs
  | (i,v) :: r=>match fs[i]? with
    | some f=>match szT P f.type,aggT P f.type with
      | some n,some g=>match aa3 g n v with
        | some new=>match aaT cs f.offset new with
          | some cs'=>ac6 P fs cs' r
          | none=>none
        | none=>none
      | _,_=>none
    | none=>none
def ap1 (g:Bool) (n:Nat) (cs:List AVal):List (Nat × AVal)→Option (List AVal)
  | []=>some cs
  | (i,v) :: r=>match aa3 g n v with
    | some new=>match aaT cs (i * n) new with
      | some cs'=>ap1 g n cs' r
      | none=>none
    | none=>none
def alU (P:Program) (t:Nat) (parts:List (Nat × AVal)):Option AVal :=
  match zeroT P t with
  | some (.agg zs)=>match P.underlying t with
    | some (.struct fs)=>match fs.toList.all fun f=>(szT P f.type).isSome with
      | true=>(ac6 P fs (zs.map .p) parts).map mkAgg
      | false=>none
    | some (.array _ e)=>match szT P e,aggT P e with
      | some n,some g=>(ap1 g n (zs.map .p) parts).map mkAgg
      | _,_=>none
    | _=>none
  | _=>none
def aiU (g:Bool) (n:Nat):Nat→List (Nat × AVal)→Option (List AVal)
  | _,[]=>some []
  | k,(i,v) :: r=>match Nat.beq i k,aa3 g n v with
    | true,some _=>match aiU g n (k + 1) r with
      | some vs=>some (v :: vs)
      | none=>none
    | _,_=>none
def zeroOk (P:Program) (e:Nat) (g:Bool) (n:Nat):Bool:=match zeroT P e with
  | some z=>match aa3 g n (.p z) with
    | some _=>true
    | none=>false
  | none=>false
def abP (P:Program) (b t len:Nat) (parts:List (Nat × AVal)) (s:St):Option Eff :=
  match elemT P t with
  | some e=>match szT P e,aggT P e with
    | some n,some g=>match zeroOk P e g n with
      | false=>none
      | true=>match aiU g n 0 parts,Nat.beq parts.length len,Nat.ble (len * n) 16777216 with
      | some vs,true,true=>match unP vs with
        | some ps=>some (.pure (.cl ps))
        | none=>match s.get b with
          | none=>some ⟨.arr b 0 0 len true,[b],[(b, .arr n len vs 0 0 0)]⟩
          | some _=>none
      | _,_,_=>none
    | _,_=>none
  | none=>none
def aiZ (P:Program) (b t:Nat) (s:St):Option Eff :=
  match zeroT P t,aggT P t,szT P t with
  | some z,some g,some n=>match aa3 g n (.p z),s.get b with
    | some cs,none=>some ⟨.box b 0,[b],[(b, .box cs)]⟩
    | _,_=>none
  | _,_,_=>none
def boxOp (P:Program) (b t:Nat) (v:AVal) (s:St):Option Eff :=
  match aggT P t,szT P t with
  | some g,some n=>match aa3 g n v,s.get b with
    | some cs,none=>some ⟨.box b 0,[b],[(b, .box cs)]⟩
    | _,_=>none
  | _,_=>none
def ac3 (P:Program) (b t:Nat) (len cap:AVal) (s:St):Option Eff :=
  match elemT P t,natOf len,natOf cap with
  | some e,some l,some c=>match szT P e,bytesT P e,zeroT P e,aggT P e with
    | some n,some y,some z,some g=>match Nat.ble l c,Nat.ble (c * y) 1099511627776,Nat.ble c 1099511627776,aa3 g n (.p z),s.get b with
      | true,true,true,some _,none=>some ⟨.arr b 0 0 l false,[b],[(b, .arr n l (List.replicate l (.p z)) 0 0 0)]⟩
      | _,_,_,_,_=>none
    | _,_,_,_=>none
  | _,_,_=>none
def source (s:St) (x:AVal):Option (List AVal × List Nat) :=
  match x with
  | .p .nils=>some ([],[])
  | .p (.sl ys)=>some (ys.map .p,[])
  | .cl ys=>some (ys.map .p,[])
  | .p (.str bs)=>some (bs.map fun b=>.p (.int .u8 (Int.ofNat b)),[])
  | .arr id ep off len _=>match viewed s id ep off len with
    | some xs=>some (xs,[id])
    | none=>none
  | _=>none
def aa7 (g:Bool) (n:Nat):List AVal→Bool
  | []=>true
  | v :: vs=>match aa3 g n v with
    | some _=>aa7 g n vs
    | none=>false
def abx (P:Program) (b t:Nat) (x y:AVal) (s:St):Option Eff :=
  match elemT P t with
  | some e =>
              match szT P e,bytesT P e,aggT P e,source s y with
    | some sz,some by_,some g,some (ys,rd) =>
      match aa7 g sz ys && zeroOk P e g sz && Nat.blt 0 by_ with
      | false=>none
      | true =>
                match x with
        | .p .nils=>match ys with
          | []=>some ⟨.p .nils,rd,[]⟩
          | _=>match Nat.ble (ys.length * by_) 1099511627776,s.get b with
            | true,none=>some ⟨.arr b 0 0 ys.length false,b :: rd,[(b, .arr sz ys.length ys 0 0 0)]⟩
            | _,_=>none
        | .p (.sl xs)=>match ys with
          | []=>some ⟨.p (.sl xs),rd,[]⟩
          | _=>none
        | .cl xs=>match ys with
          | []=>some ⟨.cl xs,rd,[]⟩
          | _=>match Nat.ble ((xs.length + ys.length) * by_) 1099511627776,s.get b,aa7 g sz (xs.map .p) with
            | true,none,true=>some ⟨.arr b 0 0 (xs.length + ys.length) false,b :: rd,[(b, .arr sz (xs.length + ys.length) (xs.map .p ++ ys) 0 0 0)]⟩
            | _,_,_=>none
        | .arr id ep off len c=>match s.get id with
          | some (.arr sz' n xs cur lost fz)=>match Nat.beq sz sz',Nat.ble lost ep,Nat.ble ((len + ys.length) * by_) 1099511627776,Nat.ble (off + len) n with
            | true,true,true,true=>match ys with
              | []=>some ⟨x,id :: rd,[]⟩
              | _=>match c with
                | true=>match s.get b with
                  | none=>some ⟨.arr b 0 0 (len + ys.length) false,b :: id :: rd,[(b, .arr sz (len + ys.length) ((xs.drop off).take len ++ ys) 0 0 0)]⟩
                  | some _=>none
                | false=>match off with
                  | 0=>match Nat.beq len n with
                    | true=>some ⟨.arr id (cur + 1) 0 (len + ys.length) false,id :: rd,[(id, .arr sz (len + ys.length) (xs ++ ys) (cur + 1) lost fz)]⟩
                    | false=>match Nat.ble fz len with
                      | true=>some ⟨.arr id (cur + 1) 0 (len + ys.length) false,id :: rd,[(id, .arr sz (len + ys.length) (xs.take len ++ ys) (cur + 1) (cur + 1) fz)]⟩
                      | false=>none
                  | _=>none
            | _,_,_,_=>none
          | _=>none
        | _=>none
    | _,_,_,_=>none
  | none=>none
def growOp (P:Program) (b t:Nat) (x y:AVal) (s:St):Option Eff :=
  match elemT P t,x,y with
  | some e, .p .nils, .p (.int .i64 (.ofNat (n + 1)))=>match szT P e,bytesT P e,aggT P e,zeroT P e with
    | some sz,some by_,some g,some z=>match zeroOk P e g sz && Nat.blt 0 by_,Nat.ble ((n + 1) * by_) 1099511627776,s.get b with
      | true,true,none=>some ⟨.arr b 0 0 (n + 1) false,[b],[(b, .arr sz (n + 1) (List.replicate (n + 1) (.p z)) 0 0 0)]⟩
      | _,_,_=>none
    | _,_,_,_=>none
  | _,_,_=>none
def lenOp (P:Program) (t:Nat) (x:AVal):Option AVal :=
  match P.underlying t with
  | some .string=>match x with
    | .p (.str bs)=>some (.p (.int .i64 bs.length))
    | _=>none
  | some (.array n _)=>some (.p (.int .i64 n))
  | some (.slice _)=>match x with
    | .p .nils=>some (.p (.int .i64 0))
    | .p (.sl xs)=>some (.p (.int .i64 xs.length))
    | .cl xs=>some (.p (.int .i64 xs.length))
    | .arr _ _ _ len _=>some (.p (.int .i64 len))
    | _=>none
  | _=>none
def capOp (P:Program) (t:Nat) (x:AVal):Option AVal :=
  match P.underlying t with
  | some (.slice _)=>match x with
    | .p .nils=>some (.p (.int .i64 0))
    | .cl xs=>some (.p (.int .i64 xs.length))
    | .arr _ _ _ len true=>some (.p (.int .i64 len))
    | _=>none
  | _=>none
def minmax (mx:Bool):List AVal→Option AVal
  | []=>none
  | .p (.int k a) :: r=>go k a r
  | _=>none
 where
  go (k:IntKind) (a:Int):List AVal→Option AVal
    | []=>some (.p (.int k a))
    | .p (.int _ b) :: r=>go k (match mx with
      | true=>if b > a then b else a
      | false=>if b < a then b else a) r
    | _=>none
def ifaceT (P:Program) (t:Nat):Bool:=match P.underlying t with
  | some (.interface _)=>true
  | _=>false
def ifOf (x:AVal):Option (Option (Nat × AVal)) :=
  match x with
  | .p .nili=>some none
  | .p (.iface t v)=>some (some (t, .p v))
  | .iface t v=>some (some (t,v))
  | _=>none
def fitsT (P:Program) (asserted t:Nat):Option Bool :=
  match P.underlying asserted with
  | some (.interface want)=>match P.info? t with
    | some i=>match Instr.missingMethod want i.methods with
      | none=>some true
      | some _=>some false
    | none=>none
  | some _=>some (Nat.beq t asserted)
  | none=>none
def fitsD (P:Program) (asserted:Nat) (d:Option (Nat × AVal)):Option Bool :=
  match d with
  | none=>match P.underlying asserted with
    | some _=>some false
    | none=>none
  | some (t,_)=>fitsT P asserted t
def aew (P:Program) (x:AVal) (asserted:Nat) (ok:Bool):Option AVal :=
  match ifOf x with
  | some d=>match fitsD P asserted d with
    | some true=>match d with
      | some (_,v) =>
        match ok with
        | true=>some (mkTup [match ifaceT P asserted with | true=>x | false=>v, .p (.bool true)])
        | false=>some (match ifaceT P asserted with | true=>x | false=>v)
      | none=>none
    | some false=>match ok,zeroT P asserted with
      | true,some z=>some (.p (.tup [z, .bool false]))
      | _,_=>none
    | none=>none
  | none=>none
def ap3 (x:AVal) (i:Nat):Option AVal :=
  match x with
  | .p (.tup vs)=>(nth vs i).map .p
  | .tup vs=>nth vs i
  | _=>none
def mkIface (t:Nat):AVal→AVal
  | .p x=>.p (.iface t x)
  | v=>.iface t v
def mkFn (f:Fn) (cap:List AVal):AVal:=match unP cap with
  | some ps=>.p (.fn f ps)
  | none=>.fn f cap
def keyOk (P:Program) (kt:Nat) (k:PVal):Bool:=match P.underlying kt,k with
  | some (.int _), .int _ _=>true
  | some .string, .str _=>true
  | some .bool, .bool _=>true
  | some (.struct fs), .agg cs=>fs.toList.all fun f=>match f.name == "_",aggT P f.type,P.underlying f.type,nth cs f.offset with
    | false,some false,some (.int _),some _=>true
    | false,some false,some .string,some _=>true
    | false,some false,some .bool,some _=>true
    | _,_,_,_=>false
  | _,_=>false
def aps (P:Program) (kt:Nat) (k q:PVal):Option Bool:=match k,q with
  | .agg a, .agg b=>structEq P kt a b
  | k,q=>ab9 (P.underlying kt) k q
def findI (P:Program) (kt:Nat) (k:PVal):Nat→List (PVal × AVal)→Option (Option Nat)
  | _,[]=>some none
  | i,(q,_) :: r=>match aps P kt k q with
    | some true=>some (some i)
    | some false=>findI P kt k (i + 1) r
    | none=>none
def ac8:List PVal→List PVal→Bool
  | [],[]=>true
  | .int k a :: x, .int k' b :: y=>decide (k=k') && a == b && ac8 x y
  | .str a :: x, .str b :: y=>aaC a b && ac8 x y
  | .bool a :: x, .bool b :: y=>a == b && ac8 x y
  | _,_=>false
def staysOk (k q:PVal):Bool:=match k,q with
  | .agg a, .agg b=>ac8 b a
  | k,q=>ac8 [q] [k]
def setE (P:Program) (kt:Nat) (k:PVal) (v:AVal) (es:List (PVal × AVal)):Option (List (PVal × AVal)) :=
  match findI P kt k 0 es with
  | some (some i)=>match nth es i with
    | some (q,_)=>match staysOk k q with
      | true=>some (es.set i (k,v))
      | false=>none
    | none=>none
  | some none=>some (es ++ [(k,v)])
  | none=>none
def delE (P:Program) (kt:Nat) (k:PVal) (es:List (PVal × AVal)):Option (List (PVal × AVal)) :=
  match findI P kt k 0 es with
  | some (some i)=>some (es.eraseIdx i)
  | some none=>some es
  | none=>none
def findE (P:Program) (kt:Nat) (k:PVal) (es:List (PVal × AVal)):Option (Option AVal) :=
  match findI P kt k 0 es with
  | some (some i)=>match nth es i with
    | some (_,v)=>some (some v)
    | none=>none
  | some none=>some none
  | none=>none
def mapT (P:Program) (t:Nat):Option (Nat × Nat):=match P.underlying t with
  | some (.map k e)=>some (k,e)
  | _=>none
def entriesOf (s:St) (x:AVal):Option (List (PVal × AVal) × List Nat):=match x with
  | .p .nilm=>some ([],[])
  | .rf .mp id=>match s.get id with
    | some (.ho (.mp es))=>some (es,[id])
    | _=>none
  | _=>none
def ahu (P:Program) (s:St) (t:Nat) (x k:AVal) (ok:Bool):Option Eff :=
  match mapT P t,k with
  | some (kt,et), .p kp=>match keyOk P kt kp,entriesOf s x with
    | true,some (es,rd)=>match findE P kt kp es with
      | some (some v)=>match ok with
        | true=>some ⟨mkTup [v, .p (.bool true)],rd,[]⟩
        | false=>some ⟨v,rd,[]⟩
      | some none=>match zeroT P et with
        | some z=>match ok with
          | true=>some ⟨.p (.tup [z, .bool false]),rd,[]⟩
          | false=>some ⟨.p z,rd,[]⟩
        | none=>none
      | none=>none
    | _,_=>none
  | _,_=>none
def aeZ (b:Nat) (s:St):Option Eff:=match s.get b with
  | none=>some ⟨.rf .mp b,[b],[(b, .ho (.mp []))]⟩
  | some _=>none
def acj (P:Program) (s:St) (t:Nat) (x k v:AVal):Option Eff :=
  match mapT P t,k,x with
  | some (kt,_), .p kp, .rf .mp id=>match keyOk P kt kp,s.get id with
    | true,some (.ho (.mp es))=>match setE P kt kp v es with
      | some es'=>some ⟨.p (.tup []),[id],[(id, .ho (.mp es'))]⟩
      | none=>none
    | _,_=>none
  | _,_,_=>none
def ahB (P:Program) (s:St) (t:Nat) (x k:AVal):Option Eff :=
  match mapT P t,k,x with
  | some (kt,_), .p kp, .rf .mp id=>match keyOk P kt kp,s.get id with
    | true,some (.ho (.mp es))=>match delE P kt kp es with
      | some es'=>some ⟨.p (.tup []),[id],[(id, .ho (.mp es'))]⟩
      | none=>none
    | _,_=>none
  | _,_,_=>none
def alh (P:Program) (b t:Nat) (x:AVal) (s:St):Option Eff :=
  match P.underlying t,x,s.get b with
  | some .string, .p (.str bs),none=>some ⟨.rf .it b,[b],[(b, .ho (.it bs 0))]⟩
  | _,_,_=>none
def nextOp (s:St) (x:AVal) (isString:Bool):Option Eff :=
  match x,isString with
  | .rf .it id,true=>match s.get id with
    | some (.ho (.it bs pos))=>match bs with
      | []=>some ⟨.p (.tup [.bool false]),[id],[]⟩
      | c :: r=>match Nat.blt c 128 with
        | true=>some ⟨.p (.tup [.bool true, .int .i64 (Int.ofNat pos), .int .i32 (Int.ofNat c)]),[id],[(id, .ho (.it r (pos + 1)))]⟩
        | false=>none
    | _=>none
  | _,_=>none
def bytesOf:List AVal→Option (List Nat)
  | []=>some []
  | .p (.int .u8 n) :: r=>match bytesOf r with
    | some l=>some (Nat.mod n.toNat 256 :: l)
    | none=>none
  | _ :: _=>none
def ae5 (P:Program) (s:St) (src dst:Nat) (x:AVal):Option Eff :=
  match P.underlying src,P.underlying dst with
  | some (.slice e),some .string=>match P.underlying e,x with
    | some (.int .u8), .p (.sl ys)=>match bytesOf (ys.map .p) with
      | some l=>some (.pure (.p (.str l)))
      | none=>none
    | some (.int .u8), .cl ys=>match bytesOf (ys.map .p) with
      | some l=>some (.pure (.p (.str l)))
      | none=>none
    | some (.int .u8), .p .nils=>some (.pure (.p (.str [])))
    | some (.int .u8), .arr id ep off len _=>match viewed s id ep off len with
      | some ys=>match bytesOf ys with
        | some l=>some ⟨.p (.str l),[id],[]⟩
        | none=>none
      | none=>none
    | _,_=>none
  | _,_=>none
def clearOp (P:Program) (t:Nat) (x:AVal):Option AVal :=
  match P.underlying t with
  | some (.slice _)=>match x with
    | .p .nils=>some (.p (.tup []))
    | .p (.sl [])=>some (.p (.tup []))
    | .cl []=>some (.p (.tup []))
    | .arr _ _ _ 0 _=>some (.p (.tup []))
    | _=>none
  | _=>none
def akd (new:List AVal):Nat→Nat→List AVal→Option (List AVal)
  | 0,_,xs=>some xs
  | k + 1,i,xs=>match nth xs i with
    | some .junk=>none
    | some e=>match aaT (cells e) 0 new with
      | some cs'=>match setNth xs i (reform e cs') with
        | some xs'=>akd new k (i + 1) xs'
        | none=>none
      | none=>none
    | none=>none
def ahC (P:Program) (s:St) (t:Nat) (x:AVal):Option Eff :=
  match P.underlying t with
  | some (.slice el)=>match szT P el,aggT P el,zeroT P el,x with
    | some sz,some g,some z, .arr id ep off len _=>match aa3 g sz (.p z),s.get id with
      | some new,some (.arr sz' n xs cur _ fz)=>match Nat.beq ep cur,Nat.ble fz off,Nat.beq sz sz',Nat.ble (off + len) n with
        | true,true,true,true=>match len with
          | 0=>none
          | len + 1=>match akd new (len + 1) off xs with
            | some xs'=>some ⟨.p (.tup []),[id],[(id, .arr sz n xs' cur cur fz)]⟩
            | none=>none
        | _,_,_,_=>none
      | _,_=>none
    | _,_,_,_=>none
  | _=>none
def glBase:Nat:=4096
def operand (tm:Tr AVal):Operand→Option AVal
  | .tmp t=>match Nat.blt t glBase with
    | true=>tm.get t
    | false=>none
  | .const v=>(ofValue v).map .p
  | .func f=>some (.p (.fn (.func f) []))
  | .global g=>tm.get (glBase + g)
def operands (tm:Tr AVal):List Operand→Option (List AVal)
  | []=>some []
  | o :: r=>match operand tm o,operands tm r with
    | some v,some vs=>some (v :: vs)
    | _,_=>none
def aaL (tm:Tr AVal):List (Nat × Operand)→Option (List (Nat × AVal))
  | []=>some []
  | (i,o) :: r=>match operand tm o,aaL tm r with
    | some v,some vs=>some ((i,v) :: vs)
    | _,_=>none
def operand? (tm:Tr AVal):Option Operand→Option (Option AVal)
  | none=>some none
  | some o=>match operand tm o with
    | some v=>some (some v)
    | none=>none
def someP (x:Option AVal):Option Eff:=match x with
  | some v=>some (.pure v)
  | none=>none
def notInt (P:Program) (t:Nat):Bool:=match P.underlying t with
  | some (.int _)=>false
  | some _=>true
  | none=>false
def aau (P:Program) (tm:Tr AVal) (s:St) (b:Nat) (op:Op):Option Eff :=
  match op with
  | .move x=>someP (operand tm x)
  | .assign x=>someP (operand tm x)
  | .pick c x y=>match operand tm c with
    | some (.p (.bool true))=>someP (operand tm x)
    | some (.p (.bool false))=>someP (operand tm y)
    | _=>none
  | .alloc t=>aiZ P b t s
  | .box t x=>match operand tm x with
    | some v=>boxOp P b t v s
    | none=>none
  | .build t parts=>match aaL tm parts.toList with
    | some ps=>someP (alU P t ps)
    | none=>none
  | .buildSlice t len parts=>match aaL tm parts.toList with
    | some ps=>abP P b t len ps s
    | none=>none
  | .load t x=>match operand tm x with
    | some v=>loadOp P s t v
    | none=>none
  | .store t x y=>match operand tm x,operand tm y with
    | some v,some u=>ac0 P s t v u
    | _,_=>none
  | .nilCheck x=>match operand tm x with
    | some v=>match nilPt v with
      | some false=>some (.pure v)
      | _=>none
    | none=>none
  | .binOp op t x y _=>match operand tm x,operand tm y with
    | some v,some u=>someP (binary P op t x y v u)
    | _,_=>none
  | .unOp op _ x=>match operand tm x with
    | some v=>someP (unary op v)
    | none=>none
  | .convert src dst x=>match operand tm x with
    | some v=>match conv P src dst v with
      | some z=>some (.pure z)
      | none=>ae5 P s src dst v
    | none=>none
  | .makeMap _ none=>aeZ b s
  | .lookup t x k ok=>match operand tm x,operand tm k with
    | some v,some u=>ahu P s t v u ok
    | _,_=>none
  | .mapUpdate t m k x=>match operand tm m,operand tm k,operand tm x with
    | some v,some u,some y=>acj P s t v u y
    | _,_,_=>none
  | .insert t m k x=>match operand tm m,operand tm k,operand tm x with
    | some v,some u,some y=>acj P s t v u y
    | _,_,_=>none
  | .range t x=>match operand tm x with
    | some v=>alh P b t v s
    | none=>none
  | .next x isString=>match operand tm x with
    | some v=>nextOp s v isString
    | none=>none
  | .makeInterface t x=>match operand tm x,ifaceT P t,(P.underlying t).isSome with
    | some v,false,true=>some (.pure (mkIface t v))
    | _,_,_=>none
  | .makeFunc (.func f) first cap=>match first.toList,operands tm cap.toList with
    | [],some vs=>some (.pure (mkFn (.func f) vs))
    | x :: r,some []=>match operands tm (x :: r) with
      | some vs=>some (.pure (.fnb (.func f) vs))
      | none=>none
    | _,_=>none
  | .makeSlice t l c=>match operand tm l,operand tm c with
    | some l,some c=>ac3 P b t l c s
    | _,_=>none
  | .slice t x lo hi mx=>match operand tm x,operand? tm lo,operand? tm hi,operand? tm mx with
    | some v,some lo,some hi,some mx=>afd P s t v lo hi mx
    | _,_,_,_=>none
  | .fieldAddr t x f=>match operand tm x with
    | some v=>someP (ad3 P t f v)
    | none=>none
  | .field t x f=>match operand tm x with
    | some v=>someP (ap2 P t f v)
    | none=>none
  | .indexAddr t x i=>match operand tm x,operand tm i with
    | some v,some i=>abN P s t v i
    | _,_=>none
  | .index t x i=>match operand tm x,operand tm i with
    | some v,some i=>someP (apv P t v i)
    | _,_=>none
  | .typeAssert x _ a ok=>match operand tm x with
    | some v=>someP (aew P v a ok)
    | none=>none
  | .extract x i=>match operand tm x with
    | some v=>someP (ap3 v i)
    | none=>none
  | .call { callee:=.builtin .len,args,argTypes }=>match args.toList,argTypes.toList with
    | [x],[t]=>match operand tm x with
      | some v=>someP (lenOp P t v)
      | none=>none
    | _,_=>none
  | .call { callee:=.builtin .cap,args,argTypes }=>match args.toList,argTypes.toList with
    | [x],[t]=>match operand tm x with
      | some v=>someP (capOp P t v)
      | none=>none
    | _,_=>none
  | .call { callee:=.builtin .append,args,argTypes }=>match args.toList,argTypes.toList with
    | [x,y],[t,t2]=>match operand tm x,operand tm y,notInt P t2 with
      | some v,some u,true=>abx P b t v u s
      | some v,some u,false=>match P.underlying t2 with
        | some (.int _)=>growOp P b t v u s
        | _=>none
      | _,_,_=>none
    | _,_=>none
  | .call { callee:=.builtin .delete,args,argTypes }=>match args.toList,argTypes.toList with
    | [x,y],[t,_]=>match operand tm x,operand tm y with
      | some v,some u=>ahB P s t v u
      | _,_=>none
    | _,_=>none
  | .call { callee:=.builtin .clear,args,argTypes }=>match args.toList,argTypes.toList with
    | [x],[t]=>match operand tm x with
      | some v=>match clearOp P t v with
        | some z=>some (.pure z)
        | none=>ahC P s t v
      | none=>none
    | _,_=>none
  | .call { callee:=.builtin .min,args, .. }=>match operands tm args.toList with
    | some vs=>someP (minmax false vs)
    | none=>none
  | .call { callee:=.builtin .max,args, .. }=>match operands tm args.toList with
    | some vs=>someP (minmax true vs)
    | none=>none
  | _=>none
end Go.Proofs.YtdnbnpknpejpdaaGreatDoor.Sw
namespace Go.Proofs.YtdnbnpknpejpdaaGreatDoor.Sw
inductive XExit where
  | normal
  | exit (id:Nat)
  | ret
  | pan (v:AVal)
inductive CR where
  | ret (v:AVal) (s:St)
  | pan (v:AVal) (s:St)
inductive Tgt where
  | fn (f:Nat)
  | yld (id:Nat)
  | iso (f:Nat)
abbrev CallFn:=Tgt→List AVal→St→Option CR
inductive R where
  | eff (e:Eff)
  | all (v:AVal) (s:St)
  | pan (v:AVal) (s:St)
  | dfr (f:Nat) (cap:List AVal)
def depth:Nat:=12
def purEs (f:AVal→Option (PVal × List Nat)):List (PVal × AVal)→Option (List (PVal × PVal) × List Nat)
  | []=>some ([],[])
  | (k,v) :: r=>match f v,purEs f r with
    | some (x,a),some (xs,b)=>some ((k,x) :: xs,a ++ b)
    | _,_=>none
def outv (s:St) (v:AVal):Option (AVal × List Nat × List Nat) :=
  match v with
  | .arr id ep off len c=>match s.get id with
    | some (.arr sz n xs cur lost fz)=>match Nat.beq ep cur,Nat.beq off 0,Nat.beq len n,Nat.beq fz 0,c,Nat.ble lost ep with
      | true,true,true,true,false,true=>match purs (pur s depth) xs with
        | some (ys,rd)=>some (.own sz ys,rd,[id])
        | none=>none
      | _,_,_,_,_,_=>(pur s depth v).map fun x=>(.p x.1,x.2,[])
    | _=>none
  | .rf .mp id=>match s.get id with
    | some (.ho (.mp es))=>match purEs (pur s depth) es with
      | some (ys,rd)=>some (.ownm ys,rd,[id])
      | none=>none
    | _=>none
  | v=>(pur s depth v).map fun x=>(.p x.1,x.2,[])
def hasDup:List Nat→Bool
  | []=>false
  | x :: r=>match r.contains x with
    | true=>true
    | false=>hasDup r
def meets:List Nat→List Nat→Bool
  | [],_=>false
  | x :: r,l=>match l.contains x with
    | true=>true
    | false=>meets r l
def outvs (s:St):List AVal→Option (List AVal × List Nat × List Nat)
  | []=>some ([],[],[])
  | v :: r=>match outv s v,outvs s r with
    | some (x,a,b),some (xs,c,d)=>some (x :: xs,a ++ c,b ++ d)
    | _,_=>none
def outL (s:St) (vs:List AVal):Option (List AVal) :=
  match outvs s vs with
  | some (xs,rd,ow)=>match hasDup ow || meets ow rd with
    | false=>some xs
    | true=>none
  | none=>none
def outR (s:St) (v:AVal):Option AVal :=
  match (match v with
    | .tup vs=>(outL s vs).map mkTup
    | .agg vs=>(outL s vs).map mkAgg
    | v=>match outL s [v] with
      | some [x]=>some x
      | _=>none) with
  | some x=>some x
  | none=>(pur s depth v).map fun x=>.p x.1
def adopt1 (b:Nat) (v:AVal):AVal × List (Nat × Obj) :=
  match v with
  | .own sz xs=>(.arr b 0 0 xs.length false,[(b, .arr sz xs.length (xs.map .p) 0 0 0)])
  | .ownm es=>(.rf .mp b,[(b, .ho (.mp (es.map fun q=>(q.1, .p q.2))))])
  | v=>(v,[])
def adopts (b:Nat):List AVal→List AVal × List (Nat × Obj)
  | []=>([],[])
  | v :: r =>
    match adopt1 b v,adopts (b + 1) r with
    | (x,w),(xs,ws)=>(x :: xs,w ++ ws)
def adopt (b:Nat) (v:AVal):AVal × List (Nat × Obj) :=
  match v with
  | .tup vs=>match adopts b vs with
    | (xs,w)=>(.tup xs,w)
  | .agg vs=>match adopts b vs with
    | (xs,w)=>(.agg xs,w)
  | v=>adopt1 b v
def ad6 (s:St):List (Nat × Obj)→Bool
  | []=>true
  | (i,_) :: r=>match s.get i with
    | none=>ad6 s r
    | some _=>false
def flatP:PVal→Bool
  | .bool _=>true
  | .int _ _=>true
  | .str _=>true
  | .tup vs=>flats vs
  | .agg vs=>flats vs
  | .nilp=>true
  | .nils=>true
  | .nilm=>true
  | .nilf=>true
  | .nili=>true
  | _=>false
 where
  flats:List PVal→Bool
    | []=>true
    | v :: r=>match flatP v with
      | true=>flats r
      | false=>false
def flatA:AVal→Bool
  | .p x=>flatP x
  | _=>false
def freeze (s:St):List Nat→List (Nat × Obj)
  | []=>[]
  | id :: r=>match s.get id with
    | some (.arr sz n xs ep lost _)=>(id, .arr sz n xs ep lost n) :: freeze s r
    | _=>freeze s r
def pureAs (f:AVal→Bool):List AVal→Bool
  | []=>true
  | v :: r=>match f v with
    | true=>pureAs f r
    | false=>false
def pureA (bw:Bool):Nat→AVal→Bool
  | 0,_=>false
  | d + 1,v=>match v with
    | .p _=>true
    | .cl _=>true
    | .agg cs=>pureAs (pureA bw d) cs
    | .tup cs=>pureAs (pureA bw d) cs
    | .iface _ v=>pureA bw d v
    | .fn _ cap=>pureAs (pureA bw d) cap
    | .arr _ _ _ _ _=>true
    | .box _ _=>bw
    | _=>false
def noBox (s:St):List Nat→Bool
  | []=>true
  | id :: r=>match s.get id with
    | some (.box _)=>false
    | _=>noBox s r
def clips (imp:Nat→Bool) (f:Nat):Bool:=imp (2000000 + f)
def clipOf (b:Bool) (v:AVal):Option (List PVal):=match b,v with
  | true, .cl xs=>some xs
  | _,_=>none
def lends (imp:Nat→Bool) (f:Nat):Bool:=imp (1000000 + f)
def callAt (C:CallFn) (imp:Nat→Bool) (s:St) (b:Nat) (f:Nat) (args:List AVal):Option R :=
  match (match imp f with | true=>false | false=>pureAs (pureA (lends imp f) depth) args) with
  | true=>match purs (pur s depth) args with
   | none=>none
   | some (ps,ids)=>match C (.iso f) (ps.map .p) St.empty with
    | some (.ret v s')=>match clipOf (clips imp f) v with
     | some xs=>match noBox s ids with
      | true=>some (.eff ⟨.cl xs,ids,freeze s ids⟩)
      | false=>none
     | none=>match outR s' v with
      | some v=>match adopt b v with
        | (v',w)=>match Nat.ble w.length 16,ad6 s w,(match flatA v' with | true=>true | false=>noBox s ids) with
          | true,true,true=>some (.eff ⟨v',ids ++ w.map (·.1),(match flatA v' with | true=>[] | false=>freeze s ids) ++ w⟩)
          | _,_,_=>none
      | none=>none
    | some (.pan v s')=>match pur s' depth v with
      | some (x,_)=>match flatP x with
        | true=>some (.pan (.p x) { s with log:=.op ids [] .e })
        | false=>none
      | none=>none
    | none=>none
  | false=>match C (.fn f) args { s with log:=.e } with
    | some (.ret v s')=>some (.all v s')
    | some (.pan v s')=>some (.pan v s')
    | none=>none
def fnOf:AVal→Option (Fn × List AVal)
  | .p (.fn f cap)=>some (f,cap.map .p)
  | .fn f cap=>some (f,cap)
  | _=>none
def methodAt (P:Program) (t:Nat) (name:String):Option Nat :=
  match P.info? t with
  | some i=>match i.methods.find? (·.name == name) with
    | some m=>match m.path.toList,m.func with
      | [],some (f,ptr)=>match P.underlying t,ptr with
        | some (.pointer _),true=>some f
        | some (.pointer _),false=>none
        | some _,false=>some f
        | _,_=>none
      | _,_=>none
    | none=>none
  | none=>none
def callOp (C:CallFn) (imp:Nat→Bool) (P:Program) (tm:Tr AVal) (s:St) (b:Nat) (c:Call):Option R :=
  match c.callee with
  | .value o=>match operand tm o,operands tm c.args.toList with
    | some fv,some args=>match fnOf fv with
      | some (.func f,cap)=>callAt C imp s b f (args ++ cap)
      | some _=>none
      | none=>match fv with
        | .rf .yld id=>match C (.yld id) args { s with log:=.e } with
          | some (.ret v s')=>some (.all v s')
          | _=>none
        | .fnb (.func f) first=>callAt C imp s b f (first ++ args)
        | _=>none
    | _,_=>none
  | .invoke o name=>match operand tm o,operands tm c.args.toList with
    | some x,some args=>match ifOf x with
      | some (some (t,v))=>match methodAt P t name with
        | some f=>callAt C imp s b f (v :: args)
        | none=>none
      | _=>none
    | _,_=>none
  | .builtin _=>none
def evOp (C:CallFn) (imp:Nat→Bool) (P:Program) (tm:Tr AVal) (s:St) (b:Nat) (op:Op):Option R :=
  match op with
  | .panic x=>match operand tm x with
    | some v=>match ifOf v with
      | some (some _)=>some (.pan v { s with log:=.e })
      | _=>none
    | none=>none
  | .call c=>match c.callee with
    | .builtin _=>(aau P tm s b op).map .eff
    | _=>callOp C imp P tm s b c
  | .defer c=>match c.callee,c.args.toList with
    | .value o,[]=>match operand tm o with
      | some fv=>match fnOf fv with
        | some (.func f,cap)=>some (.dfr f cap)
        | _=>none
      | none=>none
    | _,_=>none
  | _=>(aau P tm s b op).map .eff
def abt (ops:Array Oper) (tm:Tr AVal) (o:Oper):Option Bool :=
  match o.guard with
  | none=>some true
  | some (j,want)=>match ops[j]? with
    | some oj=>match oj.dst with
      | some d=>match operand tm (.tmp d) with
        | some (.p (.bool b))=>some (b == want)
        | some (.p (.tup []))=>some false
        | _=>none
      | none=>none
    | none=>none
def setDst (n:Nat) (tm:Tr AVal) (d:Option Nat) (v:AVal):Option (Tr AVal) :=
  match d with
  | none=>some tm
  | some d=>match Nat.blt d n with
    | true=>some (tm.set d v)
    | false=>none
structure Rec where
  rd:List Nat
  wr:List Nat
inductive Dfr where
  | mark (id:Nat)
  | call (f:Nat) (cap:List AVal)
  | hid (b:Nat)
inductive RO where
  | done (tm:Tr AVal) (s:St) (recs:List (Nat × Rec)) (ds:List Dfr)
  | pan (v:AVal) (tm:Tr AVal) (s:St) (ds:List Dfr)
def recOf (e:Eff):Rec:=⟨e.rd,e.wr.map (·.1)⟩
def addRec (i:Nat) (x:Rec) (recs:List (Nat × Rec)):List (Nat × Rec) :=
  match x.rd,x.wr with
  | [],[]=>recs
  | _,_=>(i,x) :: recs
def evOps (C:CallFn) (imp:Nat→Bool) (P:Program) (n:Nat) (ops:Array Oper):List Oper→Nat→Nat→Tr AVal→St→List (Nat × Rec)→List Dfr→Option RO
  | [],_,_,tm,s,recs,ds=>some (.done tm s recs ds)
  | o :: r,i,b,tm,s,recs,ds =>
    match abt ops tm o with
    | some true=>match evOp C imp P tm s b o.op with
      | some (.eff e)=>match setDst n tm o.dst e.v with
        | some tm'=>evOps C imp P n ops r (i + 1) (b + 16) tm' (s.did e.rd e.wr) (addRec i (recOf e) recs) ds
        | none=>none
      | some (.all v s')=>match setDst n tm o.dst v with
        | some tm'=>evOps C imp P n ops r (i + 1) (b + 16) tm' { s' with log:=.call s'.log s.log } (addRec i ⟨s'.log.rdOf,s'.log.flat.map (·.1)⟩ recs) ds
        | none=>none
      | some (.pan v s')=>some (.pan v tm { s' with log:=.call s'.log s.log } ds)
      | some (.dfr f cap)=>match setDst n tm o.dst (.p (.tup [])) with
        | some tm'=>evOps C imp P n ops r (i + 1) (b + 16) tm' s recs (.call f cap :: ds)
        | none=>none
      | none=>none
    | some false=>match setDst n tm o.dst (.p (.tup [])) with
      | some tm'=>evOps C imp P n ops r (i + 1) (b + 16) tm' s recs ds
      | none=>none
    | none=>none
def clash (a b:Rec):Bool:=meets a.wr b.rd || meets a.wr b.wr || meets b.wr a.rd
def freeOf (m:Nat) (x:Rec):List (Nat × Rec)→Bool
  | []=>true
  | (j,y) :: r=>match clash x y with
    | false=>freeOf m x r
    | true=>match m.testBit j with
      | true=>freeOf m x r
      | false=>false
def abL (before:Array Nat):List (Nat × Rec)→Bool
  | []=>true
  | (i,x) :: r=>match freeOf (before.getD i 0) x r with
    | true=>abL before r
    | false=>false
def ae4 (ops:Array Oper):Bool :=
  ops.toList.zipIdx.all fun (o,i)=>o.after.toList.all fun e=>!Region.binds .any e || Nat.blt e.on i
def ac2 (ops:Array Oper) (before:Array Nat):Bool :=
  ops.toList.zipIdx.all fun (y,j)=>(ops.toList.zipIdx.take j).all fun (x,i)=>(before.getD j 0).testBit i || x.apart ops y
def statOk (ops:Array Oper):Bool:=ae4 ops && ac2 ops (Region.before ops)
def codeOk:Code→Bool
  | .region _ ops true=>statOk ops
  | .seq a b=>codeOk a && codeOk b
  | .cond _ a b=>codeOk a && codeOk b
  | .block _ c=>codeOk c
  | .loop c=>codeOk c
  | .scope c=>codeOk c
  | .rangeFunc _ _ a b=>codeOk a && codeOk b
  | _=>true
def evAny (C:CallFn) (imp:Nat→Bool) (P:Program) (n:Nat) (ops:Array Oper) (B:Array Nat):List Oper→Nat→Nat→Tr AVal→St→List (Nat × Rec)→Option (Nat × AVal)→Option (Tr AVal × St × List (Nat × Rec) × Option (Nat × AVal))
  | [],_,_,tm,s,recs,q=>some (tm,s,recs,q)
  | o :: r,i,b,tm,s,recs,q =>
    match (match q with | some (p,_)=>(B.getD i 0).testBit p | none=>false) with
    | true=>match setDst n tm o.dst (.p (.tup [])) with
      | some tm'=>evAny C imp P n ops B r (i + 1) (b + 16) tm' s recs q
      | none=>none
    | false=>match abt ops tm o with
      | some true=>match evOp C imp P tm s b o.op with
        | some (.eff e)=>match setDst n tm o.dst e.v with
          | some tm'=>evAny C imp P n ops B r (i + 1) (b + 16) tm' (s.did e.rd e.wr) (addRec i (recOf e) recs) q
          | none=>none
        | some (.all v s')=>match setDst n tm o.dst v with
          | some tm'=>evAny C imp P n ops B r (i + 1) (b + 16) tm' { s' with log:=.call s'.log s.log } (addRec i ⟨s'.log.rdOf,s'.log.flat.map (·.1)⟩ recs) q
          | none=>none
        | some (.pan v s')=>match q,setDst n tm o.dst .junk with
          | none,some tm'=>evAny C imp P n ops B r (i + 1) (b + 16) tm' { s' with log:=.call s'.log s.log } (addRec i ⟨s'.log.rdOf,s'.log.flat.map (·.1)⟩ recs) (some (i,v))
          | _,_=>none
        | _=>none
      | some false=>match setDst n tm o.dst (.p (.tup [])) with
        | some tm'=>evAny C imp P n ops B r (i + 1) (b + 16) tm' s recs q
        | none=>none
      | none=>none
def quiet (B:Array Nat) (p:Nat):List (Nat × Rec)→Bool
  | []=>true
  | (j,x) :: r=>match Nat.beq j p || (B.getD p 0).testBit j || x.wr.isEmpty with
    | true=>quiet B p r
    | false=>false
structure Fr where
  tm:Tr AVal
  dfs:List Dfr
def acV (C:CallFn) (imp:Nat→Bool) (P:Program) (n:Nat) (rd:Bool) (ops:Array Oper) (draw:Bool) (fr:Fr) (s:St):Option (XExit × Fr × St) :=
  match draw with
  | false=>match evOps C imp P n ops ops.toList 0 s.next fr.tm { s with next:=s.next + 16 * ops.size } [] [] with
    | some (.done tm s _ ds)=>match rd,ds with
      | true,_ :: _=>none
      | _,_=>some (.normal, { tm:=tm,dfs:=ds ++ fr.dfs },s)
    | some (.pan v tm s ds)=>match rd,ds with
      | true,_ :: _=>none
      | _,_=>some (.pan v, { tm:=tm,dfs:=ds ++ fr.dfs },s)
    | none=>none
  | true=>match evAny C imp P n ops (Region.before ops) ops.toList 0 s.next fr.tm { s with next:=s.next + 16 * ops.size } [] none with
    | some (tm,s,recs,none)=>match abL (Region.before ops) recs with
      | true=>some (.normal, { fr with tm },s)
      | false=>none
    | some (_,s,recs,some (p,u))=>match abL (Region.before ops) recs,quiet (Region.before ops) p recs with
      | true,true=>some (.pan u, { fr with tm:=.lf },s)
      | _,_=>none
    | none=>none
def loopN (f:Fr→St→Option (XExit × Fr × St)):Nat→Fr→St→Option (XExit × Fr × St)
  | 0,_,_=>none
  | k + 1,fr,s=>match f fr s with
    | some (.normal,fr',s')=>loopN f k fr' s'
    | r=>r
def pendX:Option Code→Option XExit
  | none=>some .normal
  | some .ret=>some .ret
  | some (.exit i)=>some (.exit i)
  | _=>none
def aka (id:Nat) (fr:Fr) (r:Option CR):Option (XExit × Fr × St) :=
  match r with
  | some (.ret _ s2)=>match s2.get (id + 1) with
    | some (.ho (.lp tm n ps assign body st pend))=>match st,pendX pend with
      | .busy,_=>none
      | _,some x=>some (x, { fr with dfs:=.mark id :: fr.dfs },s2.did [id + 1] [(id + 1, .ho (.lp tm n ps assign body .exhausted pend))])
      | _,none=>none
    | _=>none
  | some (.pan v s2)=>some (.pan v, { fr with dfs:=.mark id :: fr.dfs },s2)
  | none=>none
def acp (n:Nat) (ps:List Nat) (assign body:Code) (tm:Tr AVal) (s:St):Option St :=
  match s.get s.next,s.get (s.next + 1) with
  | none,none=>some (({ s with next:=s.next + 16 }:St).did [s.next,s.next + 1] [(s.next, .ho (.dl true)),(s.next + 1, .ho (.lp tm n ps assign body .ready none))])
  | _,_=>none
def evCode (C:CallFn) (imp:Nat→Bool) (P:Program) (k n:Nat) (rd:Bool):Code→Fr→St→Option (XExit × Fr × St)
  | .skip,fr,s=>some (.normal,fr,s)
  | .label _,fr,s=>some (.normal,fr,s)
  | .region _ ops draw,fr,s=>acV C imp P n rd ops draw fr s
  | .seq a b,fr,s=>match evCode C imp P k n rd a fr s with
    | some (.normal,fr',s')=>evCode C imp P k n rd b fr' s'
    | r=>r
  | .cond c a b,fr,s=>match operand fr.tm c with
    | some (.p (.bool true))=>evCode C imp P k n rd a fr s
    | some (.p (.bool false))=>evCode C imp P k n rd b fr s
    | _=>none
  | .block id c,fr,s=>match evCode C imp P k n rd c fr s with
    | some (.exit i,fr',s')=>match Nat.beq i id with
      | true=>some (.normal,fr',s')
      | false=>some (.exit i,fr',s')
    | r=>r
  | .loop c,fr,s=>loopN (evCode C imp P k n rd c) k fr s
  | .exit id,fr,s=>some (.exit id,fr,s)
  | .scope c,fr,s=>match rd with
    | false=>evCode C imp P k n rd c fr s
    | true=>none
  | .ret,fr,s=>some (.ret,fr,s)
  | .rangeFunc g ps assign body,fr,s=>match rd,operand fr.tm g with
    | false,some gv=>match fnOf gv with
      | some (.func f,cap)=>match acp n ps.toList assign body fr.tm s with
        | some s1=>aka s.next fr (C (.fn f) (.rf .yld (s.next + 1) :: cap) s1)
        | none=>none
      | _=>none
    | _,_=>none
  | _,_,_=>none
def aaN (P:Program) (tm:Tr AVal) (s:St):List ResultVar→Option (List AVal × List Nat)
  | []=>some ([],[])
  | .tmp t :: r=>match operand tm (.tmp t),aaN P tm s r with
    | some v,some (vs,rd)=>some (v :: vs,rd)
    | _,_=>none
  | .cell a t :: r=>match operand tm (.tmp a) with
    | some x=>match loadOp P s t x,aaN P tm s r with
      | some e,some (vs,rd)=>some (e.v :: vs,e.rd ++ rd)
      | _,_=>none
    | none=>none
def akx (l:List AVal):AVal :=
  match l with
  | [v]=>v
  | l=>mkTup l
def argsTm (gl:Tr AVal):Nat→List AVal→Tr AVal
  | _,[]=>gl
  | i,v :: r=>(argsTm gl (i + 1) r).set i v
def aj3:Op→Bool
  | .call { callee:=.builtin .recover, .. }=>true
  | _=>false
def hasRec:Code→Bool
  | .region _ ops _=>ops.toList.any fun o=>aj3 o.op
  | .seq a b=>hasRec a || hasRec b
  | .cond _ a b=>hasRec a || hasRec b
  | .block _ c=>hasRec c
  | .loop c=>hasRec c
  | .scope c=>hasRec c
  | .rangeFunc _ _ a b=>hasRec a || hasRec b
  | _=>false
def evOpsD (P:Program) (n:Nat) (ops:Array Oper):List Oper→Nat→Tr AVal→St→Option AVal→Option (Tr AVal × St × Option AVal)
  | [],_,tm,s,m=>some (tm,s,m)
  | o :: r,b,tm,s,m =>
    match abt ops tm o with
    | some true=>match aj3 o.op with
      | true=>match setDst n tm o.dst (match m with | some v=>v | none=>.p .nili) with
        | some tm'=>evOpsD P n ops r (b + 16) tm' s none
        | none=>none
      | false=>match aau P tm s b o.op with
        | some e=>match setDst n tm o.dst e.v with
          | some tm'=>evOpsD P n ops r (b + 16) tm' (s.did e.rd e.wr) m
          | none=>none
        | none=>none
    | some false=>match setDst n tm o.dst (.p (.tup [])) with
      | some tm'=>evOpsD P n ops r (b + 16) tm' s m
      | none=>none
    | none=>none
def withM (m:Option AVal):Option (XExit × Fr × St)→Option (XExit × Fr × St × Option AVal)
  | some (x,fr,s)=>some (x,fr,s,m)
  | none=>none
def evD (C:CallFn) (imp:Nat→Bool) (P:Program) (k n:Nat):Code→Fr→St→Option AVal→Option (XExit × Fr × St × Option AVal)
  | .seq a b,fr,s,m=>match hasRec (.seq a b) with
    | false=>withM m (evCode C imp P k n false (.seq a b) fr s)
    | true=>match evD C imp P k n a fr s m with
      | some (.normal,fr',s',m')=>evD C imp P k n b fr' s' m'
      | r=>r
  | .region id ops draw,fr,s,m=>match hasRec (.region id ops draw),draw with
    | true,false=>match evOpsD P n ops ops.toList s.next fr.tm { s with next:=s.next + 16 * ops.size } m with
      | some (tm,s',m')=>some (.normal, { fr with tm },s',m')
      | none=>none
    | true,true=>none
    | false,_=>withM m (evCode C imp P k n false (.region id ops draw) fr s)
  | c,fr,s,m=>match hasRec c with
    | false=>withM m (evCode C imp P k n false c fr s)
    | true=>none
def evDfr (C:CallFn) (gl:Tr AVal) (imp:Nat→Bool) (P:Program) (k f:Nat) (args:List AVal) (s:St) (m:Option AVal):Option (St × Option AVal) :=
  match P.funcs[f]? with
  | some fn=>match fn.body with
    | some c=>match Nat.ble args.length glBase,Nat.ble fn.ntmps glBase with
      | true,true=>match evD C imp P k (max args.length fn.ntmps) c { tm:=argsTm gl 0 args,dfs:=[] } s m with
        | some (x,fr,s',m')=>match fr.dfs,aaN P fr.tm s' fn.results.toList,x with
          | [],some (_,rd), .normal=>some (s'.did rd [],m')
          | [],some (_,rd), .ret=>some (s'.did rd [],m')
          | _,_,_=>none
        | none=>none
      | _,_=>none
    | none=>none
  | none=>none
def abw (C:CallFn) (gl:Tr AVal) (imp:Nat→Bool) (P:Program) (k:Nat):List Dfr→St→Option AVal→Option (St × Option AVal)
  | [],s,m=>some (s,m)
  | .mark id :: r,s,m=>match s.get id with
    | some (.ho (.dl true))=>abw C gl imp P k r (s.did [id] [(id, .ho (.dl false))]) m
    | _=>none
  | .call f cap :: r,s,m=>match evDfr C gl imp P k f cap s m with
    | some (s',m')=>abw C gl imp P k r s' m'
    | none=>none
  | .hid _ :: _,_,_=>none
def agR (C:CallFn) (gl:Tr AVal) (imp:Nat→Bool) (P:Program) (k:Nat) (fn:Func) (fr:Fr) (s:St) (m:Option AVal):Option CR :=
  match abw C gl imp P k fr.dfs s m with
  | some (s',none)=>match aaN P fr.tm s' fn.results.toList with
    | some (vs,rd)=>some (.ret (akx vs) (s'.did rd []))
    | none=>none
  | some (s',some v)=>some (.pan v s')
  | none=>none
def evFunc (C:CallFn) (gl:Tr AVal) (imp:Nat→Bool) (P:Program) (k:Nat) (f:Nat) (args:List AVal) (s:St):Option CR :=
  match P.funcs[f]? with
  | some fn=>match fn.body with
    | some c=>match Nat.ble args.length glBase,Nat.ble fn.ntmps glBase with
      | true,true=>match evCode C imp P k (max args.length fn.ntmps) false c { tm:=argsTm gl 0 args,dfs:=[] } s with
        | some (.normal,fr,s')=>agR C gl imp P k fn fr s' none
        | some (.ret,fr,s')=>agR C gl imp P k fn fr s' none
        | some (.pan v,fr,s')=>agR C gl imp P k fn fr s' (some v)
        | _=>none
      | _,_=>none
    | none=>none
  | none=>none
def agw (n:Nat):List Nat→List AVal→Tr AVal→Option (Tr AVal)
  | [],[],tm=>some tm
  | p :: ps,v :: vs,tm=>match setDst n tm (some p) v with
    | some tm'=>agw n ps vs tm'
    | none=>none
  | _,_,_=>none
def ab8 (id:Nat) (x:XExit) (s:St):Option CR :=
  match s.get id with
  | some (.ho (.lp tm n ps assign body .busy none))=>match x with
    | .normal=>some (.ret (.p (.bool true)) (s.did [id] [(id, .ho (.lp tm n ps assign body .ready none))]))
    | .ret=>some (.ret (.p (.bool false)) (s.did [id] [(id, .ho (.lp tm n ps assign body .done (some .ret)))]))
    | .exit i=>some (.ret (.p (.bool false)) (s.did [id] [(id, .ho (.lp tm n ps assign body .done (some (.exit i))))]))
    | .pan _=>none
  | _=>none
def alQ (C:CallFn) (imp:Nat→Bool) (P:Program) (k:Nat) (id:Nat) (args:List AVal) (s:St):Option CR :=
  match s.get id with
  | some (.ho (.lp tm n ps assign body .ready none))=>match agw n ps args tm with
    | some tm1=>match evCode C imp P k n true assign { tm:=tm1,dfs:=[] } (s.did [id] []) with
      | some (.normal,fr1,s1)=>match s1.get id with
        | some (.ho (.lp tm' n' ps' assign' body' .ready none)) =>
          match evCode C imp P k n true body fr1 (s1.did [id] [(id, .ho (.lp tm' n' ps' assign' body' .busy none))]) with
          | some (x,_,s3)=>ab8 id x s3
          | none=>none
        | _=>none
      | _=>none
    | none=>none
  | _=>none
abbrev Memo:=Nat→List AVal→Option CR
def evCall (M:Memo) (gl:Tr AVal) (imp:Nat→Bool) (P:Program) (k:Nat):Nat→CallFn
  | 0=>fun _ _ _=>none
  | n + 1=>fun t args s=>match t with
    | .fn f=>evFunc (evCall M gl imp P k n) gl imp P k f args s
    | .yld id=>alQ (evCall M gl imp P k n) imp P k id args s
    | .iso f=>match M f args with
      | some r=>some r
      | none=>evFunc (evCall M gl imp P k n) gl imp P k f args s
end Go.Proofs.YtdnbnpknpejpdaaGreatDoor.Sw
namespace Go.Proofs.YtdnbnpknpejpdaaGreatDoor.Sw
theorem bits_inj:∀ (f g m n:Nat),m≤f→n≤g→bits f m=bits g n→m=n:=by
  intro f
  induction f with
  | zero =>
    intro g m n hm hn h
    have:m=0:=by omega
    subst this
    cases g with
    | zero=>omega
    | succ g =>
      cases n with
      | zero=>rfl
      | succ n=>simp [bits] at h
  | succ f ih =>
    intro g m n hm hn h
    cases m with
    | zero =>
      cases g with
      | zero=>omega
      | succ g =>
        cases n with
        | zero=>rfl
        | succ n=>simp [bits] at h
    | succ m =>
      cases g with
      | zero =>
        have:n=0:=by omega
        subst this
        simp [bits] at h
      | succ g =>
        cases n with
        | zero=>simp [bits] at h
        | succ n =>
          simp only [bits,List.cons.injEq] at h
          obtain ⟨h1,h2⟩:=h
          have e:=ih g (Nat.div m 2) (Nat.div n 2) (by show m / 2≤f; omega) (by show n / 2≤g; omega) h2
          have h1' : ((m + 1) % 2=0) ↔ ((n + 1) % 2=0):=by
            have a:Nat.beq ((m + 1) % 2) 0=Nat.beq ((n + 1) % 2) 0:=h1
            constructor
            · intro h0
              rw [h0] at a
              exact Nat.eq_of_beq_eq_true (a.symm.trans rfl)
            · intro h0
              rw [h0] at a
              exact Nat.eq_of_beq_eq_true (a.trans rfl)
          have e' : m / 2=n / 2:=e
          omega
theorem path_inj {m n:Nat} (h:path m=path n):m=n:=bits_inj m n m n (Nat.le_refl _) (Nat.le_refl _) h
theorem Tr.find_put {α:Type} (x:α):∀ (p q:List Bool) (t:Tr α),(t.put x p).find q=if p=q then some x else t.find q:=by
  intro p
  induction p with
  | nil =>
    intro q t
    cases t with
    | lf=>cases q with
      | nil=>simp [Tr.put,Tr.find]
      | cons b q=>cases b <;> simp [Tr.put,Tr.find] <;> cases q <;> simp [Tr.find]
    | nd v l r=>cases q with
      | nil=>simp [Tr.put,Tr.find]
      | cons b q=>cases b <;> simp [Tr.put,Tr.find]
  | cons a p ih =>
    intro q t
    cases t with
    | lf =>
      cases q with
      | nil=>cases a <;> simp [Tr.put,Tr.find]
      | cons b q =>
        have hl:∀ q:List Bool,(Tr.lf:Tr α).find q=none:=by intro q; cases q <;> rfl
        cases a <;> cases b <;> simp [Tr.put,Tr.find,ih,hl]
    | nd v l r =>
      cases q with
      | nil=>cases a <;> simp [Tr.put,Tr.find]
      | cons b q=>cases a <;> cases b <;> simp [Tr.put,Tr.find,ih]
theorem Tr.aa0 {α:Type} (t:Tr α) (m n:Nat) (x:α):(t.set m x).get n=if m=n then some x else t.get n:=by
  unfold Tr.get Tr.set
  rw [Tr.find_put]
  by_cases h:m=n
  · simp [h]
  · rw [if_neg h,if_neg (fun e=>h (path_inj e))]
theorem Tr.get_lf {α:Type} (n:Nat):(Tr.lf:Tr α).get n=none:=by
  unfold Tr.get
  cases path n <;> rfl
theorem St.aa0 (s:St) (m n:Nat) (o:Obj):(s.set m o).get n=if m=n then some o else s.get n:=Tr.aa0 _ _ _ _
def isCell:Value→Bool
  | .agg _=>false
  | .tuple _=>false
  | _=>true
def aaH (I:Nat→Nat→Prop) (w:World) (b o:Nat) (cs:List Value):Prop :=
  ∀ (i:Nat) (c:Value),cs[i]? = some c→w.cell? ⟨b,o + i,none⟩=some c∧I b (o + i)
mutual
def RepP (I:Nat→Nat→Prop) (w:World):PVal→Value→Prop
  | .bool b,v=>v = .bool b
  | .int k n,v=>v = .int k n
  | .str s,v=>∃ t:ByteArray,v = .string t∧t.data.toList.map UInt8.toNat=s
  | .nilp,v=>v = .pointer none
  | .nils,v=>v = .slice none 0 0
  | .nilm,v=>v = .map none
  | .nilf,v=>v = .nilFunc
  | .nili,v=>v = .nilIface
  | .agg cs,v=>∃ vs:List Value,v = .agg vs.toArray∧RepPs I w cs vs∧(∀ x ∈ vs,isCell x=true)
  | .tup cs,v=>∃ vs:List Value,v = .tuple vs.toArray∧RepPs I w cs vs
  | .iface t x,v=>∃ y,v = .iface t y∧RepP I w x y
  | .sl xs,v=>(∃ b o cap sz vs,v = .slice (some ⟨b,o,none⟩) xs.length cap∧xs.length≤cap∧RepPs I w xs vs ∧
      (∀ x ∈ vs,x.cells.size=sz)∧aaH I w b o (vs.flatMap (·.cells.toList))) ∨ (xs = [] ∧ ∃ a cap,v = .slice (some a) 0 cap)
  | .ip x,v=>∃ b o y,v = .pointer (some ⟨b,o,none⟩)∧RepP I w x y∧aaH I w b o y.cells.toList
  | .fn f cap,v=>∃ vs:List Value,v = .func f #[] vs.toArray∧RepPs I w cap vs
def RepPs (I:Nat→Nat→Prop) (w:World):List PVal→List Value→Prop
  | [],vs=>vs = []
  | x :: xs,vs=>∃ y ys,vs=y :: ys∧RepP I w x y∧RepPs I w xs ys
end
def Keeps (I I' : Nat→Nat→Prop) (w w' : World):Prop :=
  ∀ b o c,I b o→w.cell? ⟨b,o,none⟩=some c→I' b o∧w'.cell? ⟨b,o,none⟩=some c
theorem Keeps.refl (I:Nat→Nat→Prop) (w:World):Keeps I I w w:=fun _ _ _ h h'=>⟨h,h'⟩
theorem Keeps.trans {I I' I'' : Nat→Nat→Prop} {w w' w'' : World} (h:Keeps I I' w w') (h' : Keeps I' I'' w' w''):Keeps I I'' w w'' :=
  fun b o c hi hc=>let ⟨a,d⟩:=h b o c hi hc; h' b o c a d
theorem aaH.keeps {I I' : Nat→Nat→Prop} {w w' : World} {b o:Nat} {cs:List Value} (hk:Keeps I I' w w') (h:aaH I w b o cs):aaH I' w' b o cs :=
  fun i c hi=>let ⟨a,d⟩:=h i c hi; let ⟨x,y⟩:=hk b (o + i) c d a; ⟨y,x⟩
mutual
theorem RepP.keeps {I I' : Nat→Nat→Prop} {w w' : World} (hk:Keeps I I' w w'):∀ (x:PVal) (v:Value),RepP I w x v→RepP I' w' x v
  | .bool _,_,h=>h
  | .int _ _,_,h=>h
  | .str _,_,h=>h
  | .nilp,_,h=>h
  | .nils,_,h=>h
  | .nilm,_,h=>h
  | .nilf,_,h=>h
  | .nili,_,h=>h
  | .agg cs,_,h=>by
    obtain ⟨vs,e,h1,h2⟩:=h
    exact ⟨vs,e,RepPs.keeps hk cs vs h1,h2⟩
  | .tup cs,_,h=>by
    obtain ⟨vs,e,h1⟩:=h
    exact ⟨vs,e,RepPs.keeps hk cs vs h1⟩
  | .iface t x,_,h=>by
    obtain ⟨y,e,h1⟩:=h
    exact ⟨y,e,RepP.keeps hk x y h1⟩
  | .sl xs,_,h=>by
    rcases h with ⟨b,o,cap,sz,vs,e,hc,h1,h2,h3⟩ | h
    · exact .inl ⟨b,o,cap,sz,vs,e,hc,RepPs.keeps hk xs vs h1,h2,h3.keeps hk⟩
    · exact .inr h
  | .ip x,_,h=>by
    obtain ⟨b,o,y,e,h1,h2⟩:=h
    exact ⟨b,o,y,e,RepP.keeps hk x y h1,h2.keeps hk⟩
  | .fn f cap,_,h=>by
    obtain ⟨vs,e,h1⟩:=h
    exact ⟨vs,e,RepPs.keeps hk cap vs h1⟩
theorem RepPs.keeps {I I' : Nat→Nat→Prop} {w w' : World} (hk:Keeps I I' w w'):∀ (xs:List PVal) (vs:List Value),RepPs I w xs vs→RepPs I' w' xs vs
  | [],_,h=>h
  | x :: xs,_,h=>by
    obtain ⟨y,ys,e,h1,h2⟩:=h
    exact ⟨y,ys,e,RepP.keeps hk x y h1,RepPs.keeps hk xs ys h2⟩
end
theorem RepPs.length {I:Nat→Nat→Prop} {w:World}:∀ {xs:List PVal} {vs:List Value},RepPs I w xs vs→vs.length=xs.length
  | [],_,h=>by rw [h]; rfl
  | _ :: xs,_,h=>by
    obtain ⟨y,ys,rfl,_,h2⟩:=h
    simp [RepPs.length h2]
abbrev Sto:=Nat→Option Obj
structure Sg where
  imm:Nat→Nat→Prop
  bx:Nat→Option Nat
  rg:Nat→Option (Nat × Nat × Nat)
  cb:Nat→Nat
  base:Nat
  pr:Nat→Prop
def PrOk (g:Sg) (n:Nat):Prop:=∀ b,g.pr b→b < n∧g.rg b=none ∧ ∀ i,g.bx i ≠ some b
def Still (g:Sg) (w:World) (g' : Sg) (w' : World):Prop:=g'.pr=g.pr ∧ ∀ b,g.pr b→w'.heap[b]? = w.heap[b]? ∧ ∀ o,g'.imm b o→g.imm b o
theorem Still.refl (g:Sg) (w:World):Still g w g w:=⟨rfl,fun _ _=>⟨rfl,fun _ h=>h⟩⟩
theorem Still.trans {g g' g'' : Sg} {w w' w'' : World} (h:Still g w g' w') (h' : Still g' w' g'' w''):Still g w g'' w'' :=
  ⟨h'.1.trans h.1,fun b hb =>
    have hb' : g'.pr b:=by rw [h.1]; exact hb
    ⟨(h'.2 b hb').1.trans (h.2 b hb).1,fun o ho=>(h.2 b hb).2 o ((h'.2 b hb').2 o ho)⟩⟩
theorem PrOk.step {g g' : Sg} {n n' : Nat} (h:PrOk g n) (hn:n≤n') (hp:g'.pr=g.pr) (hr:∀ b,g.pr b→g'.rg b=none ∨ g'.rg b=g.rg b) (hb:∀ i b,g.pr b→g'.bx i=some b → ∃ j,g.bx j=some b):PrOk g' n':=fun b hpb=>by
  rw [hp] at hpb
  obtain ⟨h1,h2,h3⟩:=h b hpb
  refine ⟨Nat.lt_of_lt_of_le h1 hn, ?_,fun i hi=>let ⟨j,hj⟩:=hb i b hpb hi; h3 j hj⟩
  rcases hr b hpb with hr | hr
  · exact hr
  · rw [hr]; exact h2
def World.bsize (w:World) (b:Nat):Nat:=match w.heap[b]? with
  | some (.cells c _ _)=>c.size
  | _=>0
def ViewOk (g:Sg) (s:Sto) (w:World) (id ep off len:Nat) (capd:Bool) (b o cap:Nat):Prop :=
  ∃ sz n xs cur lost fz,s id=some (.arr sz n xs cur lost fz) ∧
    (lost≤ep→ep≤cur ∧ ∃ st m,g.rg b=some (id,st,m)∧o=st + off * sz∧off + len≤m∧(capd=false→o + cap * sz≤World.bsize w b)∧(ep=cur→g.cb id=b))
def ElOk (g:Sg) (s:Sto) (id ep i off:Nat) (b o:Nat):Prop :=
  ∃ sz n xs cur lost fz,s id=some (.arr sz n xs cur lost fz) ∧
    (lost≤ep→ep≤cur ∧ ∃ st m,g.rg b=some (id,st,m)∧i < m∧o=st + i * sz + off∧(ep=cur→g.cb id=b))
def refVal (k:Rk) (b:Nat):Value:=match k with
  | .mp=>.map (some b)
  | .it=>.pointer (some ⟨b,0,none⟩)
  | .yld=>.func (.yield b) #[] #[]
mutual
def RepA (g:Sg) (s:Sto) (w:World):AVal→Value→Prop
  | .p x,v=>RepP g.imm w x v
  | .agg cs,v=>∃ vs:List Value,v = .agg vs.toArray∧RepAs g s w cs vs∧(∀ x ∈ vs,isCell x=true)
  | .tup cs,v=>∃ vs:List Value,v = .tuple vs.toArray∧RepAs g s w cs vs
  | .iface t x,v=>∃ y,v = .iface t y∧RepA g s w x y
  | .cl xs,v=>(∃ b o sz vs,v = .slice (some ⟨b,o,none⟩) xs.length xs.length∧RepPs g.imm w xs vs ∧
      (∀ x ∈ vs,x.cells.size=sz)∧aaH g.imm w b o (vs.flatMap (·.cells.toList))) ∨ (xs = [] ∧ ∃ a,v = .slice (some a) 0 0)
  | .own _ _,_=>False
  | .ownm _,_=>False
  | .box id off,v=>∃ b,g.bx id=some b∧v = .pointer (some ⟨b,off,none⟩)
  | .arr id ep off len capd,v=>∃ b o cap,v = .slice (some ⟨b,o,none⟩) len cap∧len≤cap∧(capd=true→cap=len)∧ViewOk g s w id ep off len capd b o cap
  | .el id ep i off,v=>∃ b o,v = .pointer (some ⟨b,o,none⟩)∧ElOk g s id ep i off b o
  | .fn f cap,v=>∃ vs:List Value,v = .func f #[] vs.toArray∧RepAs g s w cap vs
  | .fnb f first,v=>∃ vs:List Value,v = .func f vs.toArray #[]∧RepAs g s w first vs
  | .rf k id,v=>∃ b,g.bx id=some b∧v=refVal k b
  | .junk,_=>True
def RepAs (g:Sg) (s:Sto) (w:World):List AVal→List Value→Prop
  | [],vs=>vs = []
  | x :: xs,vs=>∃ y ys,vs=y :: ys∧RepA g s w x y∧RepAs g s w xs ys
end
structure Ext (g:Sg) (s:Sto) (w:World) (g' : Sg) (s' : Sto) (w' : World):Prop where
  keeps:Keeps g.imm g'.imm w w'
  bx:∀ id b,g.bx id=some b→g'.bx id=some b
  view:∀ id ep off len capd b o cap,ViewOk g s w id ep off len capd b o cap→ViewOk g' s' w' id ep off len capd b o cap
  el:∀ id ep i off b o,ElOk g s id ep i off b o→ElOk g' s' id ep i off b o
  base:g'.base=g.base
  below:Go.RowKit.Below g.base w w'
  immB:∀ b o,b < g.base→g'.imm b o→g.imm b o
  still:Still g w g' w'
theorem Ext.refl (g:Sg) (s:Sto) (w:World):Ext g s w g s w :=
  ⟨.refl _ _,fun _ _ h=>h,fun _ _ _ _ _ _ _ _ h=>h,fun _ _ _ _ _ _ h=>h,rfl, .refl _ _,fun _ _ _ h=>h, .refl _ _⟩
theorem Ext.trans {g g' g'' : Sg} {s s' s'' : Sto} {w w' w'' : World} (h:Ext g s w g' s' w') (h' : Ext g' s' w' g'' s'' w''):Ext g s w g'' s'' w'' :=
  ⟨h.keeps.trans h'.keeps,fun id b hb=>h'.bx id b (h.bx id b hb),fun _ _ _ _ _ _ _ _ hv=>h'.view _ _ _ _ _ _ _ _ (h.view _ _ _ _ _ _ _ _ hv),
    fun _ _ _ _ _ _ he=>h'.el _ _ _ _ _ _ (h.el _ _ _ _ _ _ he),h'.base.trans h.base,h.below.trans (h.base ▸ h'.below),
    fun b o hb hi=>h.immB b o hb (h'.immB b o (h.base ▸ hb) hi),h.still.trans h'.still⟩
section
variable {g g' : Sg} {s s' : Sto} {w w' : World}
mutual
theorem RepA.ext (he:Ext g s w g' s' w'):∀ (x:AVal) (v:Value),RepA g s w x v→RepA g' s' w' x v
  | .p x,v,h=>RepP.keeps he.keeps x v h
  | .agg cs,_,h=>by
    obtain ⟨vs,e,h1,h2⟩:=h
    exact ⟨vs,e,RepAs.ext he cs vs h1,h2⟩
  | .tup cs,_,h=>by
    obtain ⟨vs,e,h1⟩:=h
    exact ⟨vs,e,RepAs.ext he cs vs h1⟩
  | .iface t x,_,h=>by
    obtain ⟨y,e,h1⟩:=h
    exact ⟨y,e,RepA.ext he x y h1⟩
  | .cl xs,_,h=>by
    rcases h with ⟨b,o,sz,vs,e,h1,h2,h3⟩ | h
    · exact .inl ⟨b,o,sz,vs,e,RepPs.keeps he.keeps xs vs h1,h2,h3.keeps he.keeps⟩
    · exact .inr h
  | .own _ _,_,h=>h.elim
  | .ownm _,_,h=>h.elim
  | .box id off,_,h=>by
    obtain ⟨b,h1,h2⟩:=h
    exact ⟨b,he.bx _ _ h1,h2⟩
  | .arr id ep off len capd,_,h=>by
    obtain ⟨b,o,cap,h1,h2,h3,h4⟩:=h
    exact ⟨b,o,cap,h1,h2,h3,he.view _ _ _ _ _ _ _ _ h4⟩
  | .el id ep i off,_,h=>by
    obtain ⟨b,o,h1,h2⟩:=h
    exact ⟨b,o,h1,he.el _ _ _ _ _ _ h2⟩
  | .fn f cap,_,h=>by
    obtain ⟨vs,e,h1⟩:=h
    exact ⟨vs,e,RepAs.ext he cap vs h1⟩
  | .fnb f first,_,h=>by
    obtain ⟨vs,e,h1⟩:=h
    exact ⟨vs,e,RepAs.ext he first vs h1⟩
  | .rf k id,_,h=>by
    obtain ⟨b,h1,h2⟩:=h
    exact ⟨b,he.bx _ _ h1,h2⟩
  | .junk,_,_=>trivial
theorem RepAs.ext (he:Ext g s w g' s' w'):∀ (xs:List AVal) (vs:List Value),RepAs g s w xs vs→RepAs g' s' w' xs vs
  | [],_,h=>h
  | x :: xs,_,h=>by
    obtain ⟨y,ys,e,h1,h2⟩:=h
    exact ⟨y,ys,e,RepA.ext he x y h1,RepAs.ext he xs ys h2⟩
end
theorem RepAs.length:∀ {xs:List AVal} {vs:List Value},RepAs g s w xs vs→vs.length=xs.length
  | [],_,h=>by rw [h]; rfl
  | _ :: xs,_,h=>by
    obtain ⟨y,ys,rfl,_,h2⟩:=h
    simp [RepAs.length h2]
end
end Go.Proofs.YtdnbnpknpejpdaaGreatDoor.Sw
namespace Go.Proofs.YtdnbnpknpejpdaaGreatDoor.Sw
open Go.RowKit
def slot (tmps:Array Value) (t:Nat):Option Value:=if t < glBase then tmps[t]? else some (.pointer (some ⟨t - glBase,0,none⟩))
def Frm (g:Sg) (s:Sto) (w:World) (tm:Tr AVal) (tmps:Array Value):Prop :=
  ∀ t x,tm.get t=some x → ∃ v,slot tmps t=some v∧RepA g s w x v
theorem Frm.ext {g g' : Sg} {s s' : Sto} {w w' : World} {tm:Tr AVal} {tmps:Array Value} (he:Ext g s w g' s' w') (h:Frm g s w tm tmps):Frm g' s' w' tm tmps :=
  fun t x ht=>let ⟨v,h1,h2⟩:=h t x ht; ⟨v,h1,RepA.ext he x v h2⟩
def RepEs (g:Sg) (s:Sto) (w:World):List (PVal × AVal)→List MapEntry→Prop
  | [],l=>l = []
  | (k,x) :: es,l=>∃ e r,l=e :: r∧RepP g.imm w k e.key∧RepA g s w x e.val∧RepEs g s w es r
def RepH (g:Sg) (s:Sto) (w:World):HObj→Go.Obj→Prop
  | .mp es,o=>∃ ents clock,o = .map ents clock∧RepEs g s w es ents.toList
  | .it str pos,o=>∃ t:ByteArray,o = .stringIter t pos∧(t.data.toList.map UInt8.toNat).drop pos=str
  | .lp tm n ps assign body st pend,o=>∃ r:Loop,o = .loop r∧r.state=st∧r.pending=pend∧r.params.toList=ps∧r.assign=assign∧r.body=body∧(n≤r.tmps.size∧n≤glBase∧codeOk assign=true∧codeOk body=true)∧Frm g s w tm r.tmps
  | .dl b,o=>o = .deferred (match b with | true=>some [] | false=>none)
theorem RepEs.ext {g g' : Sg} {s s' : Sto} {w w' : World} (he:Ext g s w g' s' w'):∀ {es:List (PVal × AVal)} {l:List MapEntry},RepEs g s w es l→RepEs g' s' w' es l
  | [],_,h=>h
  | (k,x) :: es,_,h=>by
    obtain ⟨e,r,rfl,h1,h2,h3⟩:=h
    exact ⟨e,r,rfl,RepP.keeps he.keeps _ _ h1,RepA.ext he _ _ h2,RepEs.ext he h3⟩
theorem RepH.ext {g g' : Sg} {s s' : Sto} {w w' : World} (he:Ext g s w g' s' w'):∀ {h:HObj} {o:Go.Obj},RepH g s w h o→RepH g' s' w' h o
  | .mp es,_,h=>by
    obtain ⟨ents,clock,rfl,h1⟩:=h
    exact ⟨ents,clock,rfl,h1.ext he⟩
  | .it _ _,_,h=>h
  | .lp ..,_,h=>by
    obtain ⟨r,rfl,h1,h2,h3,h4,h5,h6,h7⟩:=h
    exact ⟨r,rfl,h1,h2,h3,h4,h5,h6,h7.ext he⟩
  | .dl _,_,h=>h
theorem ad2 {g g' : Sg} {s s' : Sto} {w w' : World} (hi:∀ id h,s id=some (.ho h) → ∃ b o,g.bx id=some b∧w.heap[b]? = some o∧RepH g s w h o) (e:Ext g s w g' s' w')
    (hs:∀ id h,s' id=some (.ho h)→s id=some (.ho h)) (hh:∀ id b,g.bx id=some b→(∃ h,s id=some (.ho h))→w'.heap[b]? = w.heap[b]?) :
    ∀ id h,s' id=some (.ho h) → ∃ b o,g'.bx id=some b∧w'.heap[b]? = some o∧RepH g' s' w' h o:=by
  intro id h h1
  have h2:=hs id h h1
  obtain ⟨b,o,h3,h4,h5⟩:=hi id h h2
  exact ⟨b,o,e.bx _ _ h3,by rw [hh id b h3 ⟨h,h2⟩]; exact h4,h5.ext e⟩
structure Inv (g:Sg) (s:Sto) (w:World):Prop where
  box:∀ id cs,s id=some (.box cs) → ∃ b c t,g.bx id=some b∧w.heap[b]? = some (.cells c t (0,0))∧RepAs g s w cs c.toList ∧
    (∀ x ∈ c.toList,isCell x=true)
  arr:∀ id sz n xs cur lost fz,s id=some (.arr sz n xs cur lost fz)→n=xs.length∧lost≤cur∧fz≤n ∧
    (∀ b st m,g.rg b=some (id,st,m)→m≤n ∧ ∃ c t vs,w.heap[b]? = some (.cells c t (0,0))∧RepAs g s w (xs.take m) vs ∧
      (∀ v ∈ vs,v.cells.size=sz ∧ ∀ x ∈ v.cells.toList,isCell x=true) ∧
      (∀ (i:Nat) (x:Value),(vs.flatMap (·.cells.toList))[i]? = some x→c[st + i]? = some x)∧(∀ o,g.imm b o→o < st + fz * sz)∧st + m * sz≤c.size)
  rgS:∀ b id st m,g.rg b=some (id,st,m)→(∃ sz n xs cur lost fz,s id=some (.arr sz n xs cur lost fz))∧g.base≤b∧b < w.heap.size
  bxS:∀ id b,g.bx id=some b→g.base≤b∧b < w.heap.size∧g.rg b=none∧(∀ o, ¬ g.imm b o)∧((∃ cs,s id=some (.box cs)) ∨ ∃ h,s id=some (.ho h))
  inj:∀ id id' b,g.bx id=some b→g.bx id' = some b→id=id'
  immS:∀ b o,g.imm b o→b < w.heap.size
  baseS:g.base≤w.heap.size
  ho:∀ id h,s id=some (.ho h) → ∃ b o,g.bx id=some b∧w.heap[b]? = some o∧RepH g s w h o
  prS:PrOk g w.heap.size
section
variable {I:Nat→Nat→Prop} {w:World}
theorem scalar_rep {v:Value} {x:PVal} (h:scalar v=some x):RepP I w x v∧isCell v=true∧v.cells = #[v]:=by
  cases v with
  | bool b=>simp [scalar] at h; subst h; exact ⟨rfl,rfl,rfl⟩
  | int k n=>simp [scalar] at h; subst h; exact ⟨rfl,rfl,rfl⟩
  | string t=>simp [scalar] at h; subst h; exact ⟨⟨t,rfl,rfl⟩,rfl,rfl⟩
  | pointer a=>cases a <;> simp [scalar] at h; subst h; exact ⟨rfl,rfl,rfl⟩
  | slice a n c =>
    cases a with
    | none =>
      cases n with
      | zero=>cases c with
        | zero=>simp [scalar] at h; subst h; exact ⟨rfl,rfl,rfl⟩
        | succ c=>simp [scalar] at h
      | succ n=>simp [scalar] at h
    | some a=>simp [scalar] at h
  | map r=>cases r <;> simp [scalar] at h; subst h; exact ⟨rfl,rfl,rfl⟩
  | nilFunc=>simp [scalar] at h; subst h; exact ⟨rfl,rfl,rfl⟩
  | nilIface=>simp [scalar] at h; subst h; exact ⟨rfl,rfl,rfl⟩
  | _=>simp [scalar] at h
theorem anA:∀ {vs:List Value} {xs:List PVal},scalars vs=some xs→RepPs I w xs vs∧(∀ v ∈ vs,isCell v=true)
  | [],xs,h=>by simp [scalars] at h; subst h; exact ⟨rfl,by simp⟩
  | v :: vs,xs,h=>by
    simp only [scalars] at h
    split at h <;> simp at h
    rename_i x ys h1 h2
    subst h
    obtain ⟨a,b,_⟩:=scalar_rep (I:=I) (w:=w) h1
    obtain ⟨c,d⟩:=anA h2
    refine ⟨⟨v,vs,rfl,a,c⟩,fun y hy=>?_⟩
    cases hy with
    | head=>exact b
    | tail _ hy=>exact d y hy
theorem abv {v:Value} {x:PVal} (h:ofValue v=some x):RepP I w x v:=by
  cases v with
  | agg cs =>
    simp only [ofValue,Option.map_eq_some_iff] at h
    obtain ⟨xs,h1,rfl⟩:=h
    obtain ⟨a,b⟩:=anA (I:=I) (w:=w) h1
    exact ⟨cs.toList,by simp,a,b⟩
  | tuple vs =>
    simp only [ofValue] at h
    split at h <;> simp at h
    rename_i he
    subst h
    exact ⟨[],by simp at he; simp [he],rfl⟩
  | _=>exact (scalar_rep (show scalar _=some x from by simpa only [ofValue] using h)).1
end
theorem aac {g:Sg} {s:Sto} {w:World} {tm:Tr AVal} {a:Act} (hf:Frm g s w tm a.tmps) {o:Operand} {x:AVal} (h:operand tm o=some x) :
    RepA g s w x (a.eval o):=by
  cases o with
  | tmp t =>
    simp only [operand] at h
    split at h <;> try (simp at h; done)
    rename_i hb
    have hb:Nat.ble (t + 1) glBase=true:=hb
    have hlt:t < glBase:=Nat.le_of_ble_eq_true hb
    obtain ⟨v,h1,h2⟩:=hf t x h
    simp only [slot,hlt,if_true] at h1
    show RepA g s w x (a.tmps.getD t undef)
    rw [Array.getD_eq_getD_getElem?,h1]; exact h2
  | const v =>
    simp only [operand,Option.map_eq_some_iff] at h
    obtain ⟨y,h1,rfl⟩:=h
    exact abv h1
  | func f =>
    simp only [operand,Option.some.injEq] at h
    subst h
    exact ⟨[],rfl,rfl⟩
  | global k =>
    obtain ⟨v,h1,h2⟩:=hf _ _ h
    have:¬ glBase + k < glBase:=by omega
    simp only [slot,this,if_false,Option.some.injEq,Nat.add_sub_cancel_left] at h1
    subst h1
    exact h2
theorem abb {g:Sg} {s:Sto} {w:World} {tm:Tr AVal} {a:Act} (hf:Frm g s w tm a.tmps):∀ {l:List Operand} {xs:List AVal},operands tm l=some xs →
    RepAs g s w xs (l.map a.eval)
  | [],xs,h=>by simp [operands] at h; subst h; rfl
  | o :: l,xs,h=>by
    simp only [operands] at h
    split at h <;> simp at h
    rename_i v vs h1 h2
    subst h
    exact ⟨_,_,rfl,aac hf h1,abb hf h2⟩
theorem aeG {g:Sg} {s:Sto} {w:World}:∀ {cs:List AVal} {ps:List PVal} {vs:List Value},unP cs=some ps→RepAs g s w cs vs→RepPs g.imm w ps vs
  | [],ps,vs,h,hr=>by simp [unP] at h; subst h; exact hr
  | c :: cs,ps,vs,h,hr=>by
    cases c <;> simp only [unP] at h <;> try (simp at h; done)
    rename_i x
    split at h <;> simp at h
    rename_i xs h1
    subst h
    obtain ⟨y,ys,rfl,a,b⟩:=hr
    exact ⟨y,ys,rfl,a,aeG h1 b⟩
theorem aaU {g:Sg} {s:Sto} {w:World}:∀ {ps:List PVal} {vs:List Value},RepPs g.imm w ps vs→RepAs g s w (ps.map .p) vs
  | [],_,h=>h
  | _ :: ps,_,h=>by
    obtain ⟨y,ys,rfl,a,b⟩:=h
    exact ⟨y,ys,rfl,a,aaU b⟩
theorem ajY {g:Sg} {s:Sto} {w:World} {cs:List AVal} {vs:List Value} (h:RepAs g s w cs vs) (hc:∀ x ∈ vs,isCell x=true):RepA g s w (mkAgg cs) (.agg vs.toArray):=by
  unfold mkAgg
  split
  · rename_i ps h1; exact ⟨vs,rfl,aeG h1 h,hc⟩
  · exact ⟨vs,rfl,h,hc⟩
theorem ajX {g:Sg} {s:Sto} {w:World} {cs:List AVal} {vs:List Value} (h:RepAs g s w cs vs):RepA g s w (mkTup cs) (.tuple vs.toArray):=by
  unfold mkTup
  split
  · rename_i ps h1; exact ⟨vs,rfl,aeG h1 h⟩
  · exact ⟨vs,rfl,h⟩
theorem mkIface_rep {g:Sg} {s:Sto} {w:World} {t:Nat} {x:AVal} {v:Value} (h:RepA g s w x v):RepA g s w (mkIface t x) (.iface t v):=by
  unfold mkIface
  split
  · exact ⟨v,rfl,h⟩
  · exact ⟨v,rfl,h⟩
theorem mkFn_rep {g:Sg} {s:Sto} {w:World} {f:Fn} {cs:List AVal} {vs:List Value} (h:RepAs g s w cs vs):RepA g s w (mkFn f cs) (.func f #[] vs.toArray):=by
  unfold mkFn
  split
  · rename_i ps h1; exact ⟨vs,rfl,aeG h1 h⟩
  · exact ⟨vs,rfl,h⟩
theorem nth_eq {α:Type}:∀ (l:List α) (n:Nat),nth l n=l[n]?
  | [],n=>by simp [nth]
  | x :: l,0=>by simp [nth]
  | x :: l,n + 1=>by simp [nth,nth_eq l n]
theorem RepAs.get {g:Sg} {s:Sto} {w:World}:∀ {xs:List AVal} {vs:List Value} {n:Nat} {x:AVal},RepAs g s w xs vs→xs[n]? = some x → ∃ v,vs[n]? = some v∧RepA g s w x v
  | [],_,_,_,_,h=>by simp at h
  | y :: xs,_,n,x,hr,h=>by
    obtain ⟨v,vs,rfl,a,b⟩:=hr
    cases n with
    | zero=>simp at h; subst h; exact ⟨v,rfl,a⟩
    | succ n =>
      obtain ⟨u,h1,h2⟩:=RepAs.get (n:=n) b (by simpa using h)
      exact ⟨u,by simpa using h1,h2⟩
theorem RepPs.get {I:Nat→Nat→Prop} {w:World}:∀ {xs:List PVal} {vs:List Value} {n:Nat} {x:PVal},RepPs I w xs vs→xs[n]? = some x → ∃ v,vs[n]? = some v∧RepP I w x v
  | [],_,_,_,_,h=>by simp at h
  | y :: xs,_,n,x,hr,h=>by
    obtain ⟨v,vs,rfl,a,b⟩:=hr
    cases n with
    | zero=>simp at h; subst h; exact ⟨v,rfl,a⟩
    | succ n =>
      obtain ⟨u,h1,h2⟩:=RepPs.get (n:=n) b (by simpa using h)
      exact ⟨u,by simpa using h1,h2⟩
theorem RepAs.append {g:Sg} {s:Sto} {w:World}:∀ {xs ys:List AVal} {vs us:List Value},RepAs g s w xs vs→RepAs g s w ys us→RepAs g s w (xs ++ ys) (vs ++ us)
  | [],_,_,_,h,h'=>by rw [h]; exact h'
  | x :: xs,_,_,_,h,h'=>by
    obtain ⟨v,vs,rfl,a,b⟩:=h
    exact ⟨v,_,rfl,a,RepAs.append b h'⟩
theorem RepAs.drop {g:Sg} {s:Sto} {w:World}:∀ {xs:List AVal} {vs:List Value} (n:Nat),RepAs g s w xs vs→RepAs g s w (xs.drop n) (vs.drop n)
  | _,_,0,h=>by simpa using h
  | [],_,n + 1,h=>by rw [h]; simp [RepAs]
  | x :: xs,_,n + 1,h=>by
    obtain ⟨v,vs,rfl,a,b⟩:=h
    simpa using RepAs.drop n b
theorem RepAs.take {g:Sg} {s:Sto} {w:World}:∀ {xs:List AVal} {vs:List Value} (n:Nat),RepAs g s w xs vs→RepAs g s w (xs.take n) (vs.take n)
  | _,_,0,_=>by simp [RepAs]
  | [],_,n + 1,h=>by rw [h]; simp [RepAs]
  | x :: xs,_,n + 1,h=>by
    obtain ⟨v,vs,rfl,a,b⟩:=h
    exact ⟨v,_,rfl,a,RepAs.take n b⟩
theorem RepPs.drop {I:Nat→Nat→Prop} {w:World}:∀ {xs:List PVal} {vs:List Value} (n:Nat),RepPs I w xs vs→RepPs I w (xs.drop n) (vs.drop n)
  | _,_,0,h=>by simpa using h
  | [],_,n + 1,h=>by rw [h]; simp [RepPs]
  | x :: xs,_,n + 1,h=>by
    obtain ⟨v,vs,rfl,a,b⟩:=h
    simpa using RepPs.drop n b
theorem RepPs.take {I:Nat→Nat→Prop} {w:World}:∀ {xs:List PVal} {vs:List Value} (n:Nat),RepPs I w xs vs→RepPs I w (xs.take n) (vs.take n)
  | _,_,0,_=>by simp [RepPs]
  | [],_,n + 1,h=>by rw [h]; simp [RepPs]
  | x :: xs,_,n + 1,h=>by
    obtain ⟨v,vs,rfl,a,b⟩:=h
    exact ⟨v,_,rfl,a,RepPs.take n b⟩
theorem part_rep {g:Sg} {s:Sto} {w:World} {agg:Bool} {cs:List AVal} {vs:List Value} {off n:Nat} {x:AVal} (hr:RepAs g s w cs vs) (hc:∀ v ∈ vs,isCell v=true)
    (h:part agg cs off n=some x):∃ v,RepA g s w x v∧(agg=true→off + n≤vs.length∧v = .agg ((vs.drop off).take n).toArray)∧(agg=false→vs[off]? = some v):=by
  unfold part at h
  cases agg with
  | true =>
    simp only at h
    split at h <;> simp at h
    rename_i hb
    subst h
    have hlen:=RepAs.length hr
    refine ⟨_,ajY (RepAs.take n (RepAs.drop off hr)) ?_,fun _=>⟨by rw [hlen]; exact Nat.le_of_ble_eq_true hb,rfl⟩,by simp⟩
    intro v hv
    exact hc v (List.mem_of_mem_drop (List.mem_of_mem_take hv))
  | false =>
    simp only [nth_eq] at h
    obtain ⟨v,h1,h2⟩:=hr.get h
    exact ⟨v,h2,by simp,fun _=>h1⟩
theorem partP_rep {I:Nat→Nat→Prop} {w:World} {agg:Bool} {cs:List PVal} {vs:List Value} {off n:Nat} {x:PVal} (hr:RepPs I w cs vs) (hc:∀ v ∈ vs,isCell v=true)
    (h:partP agg cs off n=some x):∃ v,RepP I w x v∧(agg=true→off + n≤vs.length∧v = .agg ((vs.drop off).take n).toArray)∧(agg=false→vs[off]? = some v):=by
  unfold partP at h
  cases agg with
  | true =>
    simp only at h
    split at h <;> simp at h
    rename_i hb
    subst h
    have hlen:=RepPs.length hr
    refine ⟨_,⟨_,rfl,RepPs.take n (RepPs.drop off hr), ?_⟩,fun _=>⟨by rw [hlen]; exact Nat.le_of_ble_eq_true hb,rfl⟩,by simp⟩
    intro v hv
    exact hc v (List.mem_of_mem_drop (List.mem_of_mem_take hv))
  | false =>
    simp only [nth_eq] at h
    obtain ⟨v,h1,h2⟩:=hr.get h
    exact ⟨v,h2,by simp,fun _=>h1⟩
section
variable {P:Program} {w:World}
theorem aaa {t:Nat} {d:TypeDesc} (h:P.underlying t=some d):(Go.underlying t).run P w = .ok d w:=by
  simp [Go.underlying,h]
theorem aaR {t:Nat} {i:TypeInfo} (h:P.info? t=some i):(Go.typeInfo t).run P w = .ok i w:=by
  simp [Go.typeInfo,h]
theorem aaw {t n:Nat} (h:szT P t=some n):(Go.sizeOf t).run P w = .ok n w:=by
  simp only [szT,Option.map_eq_some_iff] at h
  obtain ⟨i,h1,rfl⟩:=h
  simp [Go.sizeOf,aaR h1]
theorem abY {t:Nat} {b:Bool} (h:aggT P t=some b):(Go.isAgg t).run P w = .ok b w:=by
  unfold aggT at h
  split at h <;> simp at h <;> subst h <;> rename_i hu <;> simp only [Go.isAgg,Sem.run_bind,aaa hu,Result.andThen_ok]
  · rfl
  · rfl
  · rename_i d h1 h2
    cases d <;> first | rfl | exact absurd rfl (h1 _) | exact absurd rfl (h2 _ _)
theorem abF {t:Nat} {z:PVal} (h:zeroT P t=some z):∃ v,(Go.zeroValue t).run P w = .ok v w∧ofValue v=some z:=by
  unfold zeroT at h
  split at h
  · rename_i i hi
    split at h
    · rename_i v hv
      exact ⟨v,by simp [Go.zeroValue,aaR hi,hv],h⟩
    · simp at h
  · simp at h
end
end Go.Proofs.YtdnbnpknpejpdaaGreatDoor.Sw
namespace Go.Proofs.YtdnbnpknpejpdaaGreatDoor.Sw
section
variable {P:Program} {g:Sg} {s:Sto} {w:World}
theorem intBin_run {op:BinOp} {k:IntKind} {a b:Int} {t:Nat} {z:PVal} (hs:op ≠ .shl) (hs' : op ≠ .shr) (h:intBin op k a b=some z) :
    ∃ v,(binOp op t (.int k a) (.int k b)).run P w = .ok v w∧RepP g.imm w z v:=by
  cases op with
  | shl=>exact absurd rfl hs
  | shr=>exact absurd rfl hs'
  | add=>simp only [intBin,Option.some.injEq] at h; subst h; exact ⟨_,by simp [binOp,Op.intArith],rfl⟩
  | sub=>simp only [intBin,Option.some.injEq] at h; subst h; exact ⟨_,by simp [binOp,Op.intArith],rfl⟩
  | mul=>simp only [intBin,Option.some.injEq] at h; subst h; exact ⟨_,by simp [binOp,Op.intArith],rfl⟩
  | quo =>
    simp only [intBin] at h
    split at h
    · simp at h
    · rename_i hb; simp only [Option.some.injEq] at h; subst h; exact ⟨_,by simp [binOp,Op.intDiv,hb],rfl⟩
  | rem =>
    simp only [intBin] at h
    split at h
    · simp at h
    · rename_i hb; simp only [Option.some.injEq] at h; subst h; exact ⟨_,by simp [binOp,Op.intDiv,hb],rfl⟩
  | and=>simp only [intBin,Option.some.injEq] at h; subst h; exact ⟨_,by simp [binOp,Op.intBits],rfl⟩
  | or=>simp only [intBin,Option.some.injEq] at h; subst h; exact ⟨_,by simp [binOp,Op.intBits],rfl⟩
  | xor=>simp only [intBin,Option.some.injEq] at h; subst h; exact ⟨_,by simp [binOp,Op.intBits],rfl⟩
  | andNot=>simp only [intBin,Option.some.injEq] at h; subst h; exact ⟨_,by simp [binOp,Op.intBits],rfl⟩
  | eql=>simp only [intBin,Option.some.injEq] at h; subst h; exact ⟨_,by simp [binOp,Op.intCmp],rfl⟩
  | neq=>simp only [intBin,Option.some.injEq] at h; subst h; exact ⟨_,by simp [binOp,Op.intCmp],rfl⟩
  | lss=>simp only [intBin,Option.some.injEq] at h; subst h; exact ⟨_,by simp [binOp,Op.intCmp],rfl⟩
  | leq=>simp only [intBin,Option.some.injEq] at h; subst h; exact ⟨_,by simp [binOp,Op.intCmp],rfl⟩
  | gtr=>simp only [intBin,Option.some.injEq] at h; subst h; exact ⟨_,by simp [binOp,Op.intCmp],rfl⟩
  | geq=>simp only [intBin,Option.some.injEq] at h; subst h; exact ⟨_,by simp [binOp,Op.intCmp],rfl⟩
theorem amc {op:BinOp} {k yk:IntKind} {a b:Int} {t:Nat} {z:PVal} (h:ahn op k a b=some z) (hop:op = .shl ∨ op = .shr) :
    ∃ v,(binOp op t (.int k a) (.int yk b)).run P w = .ok v w∧RepP g.imm w z v:=by
  unfold ahn at h
  split at h
  · simp at h
  · rename_i hb
    rcases hop with rfl | rfl <;> simp at h <;> subst h <;> exact ⟨_,by simp [binOp,Op.shift,hb],rfl⟩
theorem adw:∀ (a b:List Nat),aaC a b=(a == b)
  | [],[]=>rfl
  | [],_ :: _=>rfl
  | _ :: _,[]=>rfl
  | x :: a,y :: b=>by
    simp only [aaC]
    split
    · rename_i h
      have:x=y:=Nat.eq_of_beq_eq_true h
      subst this
      simp [adw a b]
    · rename_i h
      have:x ≠ y:=Nat.ne_of_beq_eq_false h
      simp [this]
theorem amD:∀ (a b:List UInt8),Op.bytesLess a b=bytesLess (a.map UInt8.toNat) (b.map UInt8.toNat)
  | _,[]=>by simp [Op.bytesLess,bytesLess]
  | [],_ :: _=>by simp [Op.bytesLess,bytesLess]
  | x :: a,y :: b=>by
    simp only [Op.bytesLess,bytesLess,List.map_cons]
    have e1:decide (x < y)=Nat.blt x.toNat y.toNat:=by
      rw [Bool.eq_iff_iff]
      simp [UInt8.lt_iff_toNat_lt,Nat.blt]; omega
    have e2:(x == y)=Nat.beq x.toNat y.toNat:=by
      rw [Bool.eq_iff_iff]
      simp [← UInt8.toNat_inj]
    rw [e1,e2,amD a b]
    cases Nat.blt x.toNat y.toNat <;> cases Nat.beq x.toNat y.toNat <;> simp
theorem afL (a b:List UInt8):(a.map UInt8.toNat == b.map UInt8.toNat)=(a == b):=by
  rw [Bool.eq_iff_iff]
  simp only [beq_iff_eq]
  constructor
  · intro h
    exact (List.map_inj_right (fun x y h=>UInt8.toNat_inj.1 h)).1 h
  · rintro rfl; rfl
theorem acZ (t:ByteArray):t.toList=t.data.toList:=ByteArray.toList_eq t
theorem strBin_run {op:BinOp} {a b:List Nat} {t:Nat} {z:PVal} {x y:Value} (hx:RepP g.imm w (.str a) x) (hy:RepP g.imm w (.str b) y) (h:strBin op a b=some z) :
    ∃ v,(binOp op t x y).run P w = .ok v w∧RepP g.imm w z v:=by
  obtain ⟨u,rfl,rfl⟩:=hx
  obtain ⟨r,rfl,rfl⟩:=hy
  have el:bytesLess (u.data.toList.map UInt8.toNat) (r.data.toList.map UInt8.toNat)=Op.bytesLess u.toList r.toList:=by
    rw [acZ,acZ,amD]
  have ee:aaC (u.data.toList.map UInt8.toNat) (r.data.toList.map UInt8.toNat)=(u.toList == r.toList):=by
    rw [acZ,acZ,adw,afL]
  cases op <;> simp only [strBin,el,ee] at h
  case add =>
    split at h <;> simp at h
    rename_i hb
    have hle:=Nat.le_of_ble_eq_true hb
    simp at hle
    subst h
    refine ⟨.string (u ++ r), ?_,u ++ r,rfl,by simp [ByteArray.data_append]⟩
    have:¬ (((u.size + r.size:Nat):Int) > IntKind.i64.max):=by
      have:u.size + r.size≤1099511627776:=by
        have e1:u.size=u.data.size:=rfl
        have e2:r.size=r.data.size:=rfl
        omega
      simp [IntKind.max,IntKind.signed,IntKind.bits]
      omega
    simp only [binOp,Op.stringOp]
    rw [if_neg this]
    rfl
  all_goals try (simp at h; done)
  all_goals
    simp at h
    subst h
    exact ⟨_,by simp only [binOp,Op.stringOp]; rfl,by simp [RepP]⟩
def eqNow:TypeDesc→Value→Value→Option Bool
  | .bool, .bool a, .bool b=>some (a == b)
  | .slice _, .slice none _ _, .slice b _ _=>some b.isNone
  | .slice _, .slice (some _) _ _, .slice none _ _=>some false
  | .pointer _, .pointer none, .pointer b=>some b.isNone
  | .pointer _, .pointer (some _), .pointer none=>some false
  | .map _ _, .map none, .map b=>some b.isNone
  | .map _ _, .map (some _), .map none=>some false
  | .func _ _ _, .nilFunc, .nilFunc=>some true
  | .func _ _ _, .nilFunc, .func _ _ _=>some false
  | .func _ _ _, .func _ _ _, .nilFunc=>some false
  | .interface _, .nilIface, .nilIface=>some true
  | .interface _, .nilIface, .iface _ _=>some false
  | .interface _, .iface _ _, .nilIface=>some false
  | _,_,_=>none
theorem abJ {t:Nat} {d:TypeDesc} {x y:Value} {b:Bool} (hu:P.underlying t=some d) (h:eqNow d x y=some b):(Op.equal t x y).run P w = .ok b w:=by
  show (Op.equalIn (9999 + 1) t x y).run P w=_
  rw [Op.equalIn]
  simp only [Sem.run_bind,aaa hu,Result.andThen_ok]
  unfold eqNow at h
  split at h <;> simp at h <;> subst h <;> rfl
theorem eqv_run {t:Nat} {x y:AVal} {vx vy:Value} {b:Bool} (hx:RepA g s w x vx) (hy:RepA g s w y vy) (h:eqv P t x y=some b) :
    (Op.equal t vx vy).run P w = .ok b w∧(∀ k n,vx ≠ .int k n)∧(∀ u,vx ≠ .string u)∧(∀ k n,vx ≠ .float k n)∧(∀ k n m,vx ≠ .complex k n m)∧(∀ c,vx ≠ .agg c):=by
  have nS:∀ {z:AVal} {v:Value} {c:Bool},RepA g s w z v→nilSl z=some c→(c=true∧v = .slice none 0 0) ∨ (c=false ∧ ∃ a n m,v = .slice (some a) n m):=by
    intro z v c hr hn
    cases z with
    | p x =>
      cases x <;> simp [nilSl] at hn
      · subst hn; exact .inl ⟨rfl,hr⟩
      · subst hn; rcases hr with ⟨b,o,cap,sz,vs,rfl,_⟩ | ⟨_,a,cap,rfl⟩ <;> exact .inr ⟨rfl,_,_,_,rfl⟩
    | cl xs=>simp [nilSl] at hn; subst hn; rcases hr with ⟨b,o,sz,vs,rfl,_⟩ | ⟨_,a,rfl⟩ <;> exact .inr ⟨rfl,_,_,_,rfl⟩
    | arr id ep off len capd=>simp [nilSl] at hn; subst hn; obtain ⟨b,o,cap,rfl,_⟩:=hr; exact .inr ⟨rfl,_,_,_,rfl⟩
    | _=>simp [nilSl] at hn
  have nP:∀ {z:AVal} {v:Value} {c:Bool},RepA g s w z v→nilPt z=some c→(c=true∧v = .pointer none) ∨ (c=false ∧ ∃ a,v = .pointer (some a)):=by
    intro z v c hr hn
    cases z with
    | p x =>
      cases x <;> simp [nilPt] at hn
      · subst hn; exact .inl ⟨rfl,hr⟩
      · subst hn; obtain ⟨b,o,y,rfl,_⟩:=hr; exact .inr ⟨rfl,_,rfl⟩
    | box id off=>simp [nilPt] at hn; subst hn; obtain ⟨b,_,rfl⟩:=hr; exact .inr ⟨rfl,_,rfl⟩
    | el id ep i off=>simp [nilPt] at hn; subst hn; obtain ⟨b,o,rfl,_⟩:=hr; exact .inr ⟨rfl,_,rfl⟩
    | _=>simp [nilPt] at hn
  have nM:∀ {z:AVal} {v:Value} {c:Bool},RepA g s w z v→nilMp z=some c→(c=true∧v = .map none) ∨ (c=false ∧ ∃ a,v = .map (some a)):=by
    intro z v c hr hn
    cases z with
    | p x =>
      cases x <;> simp [nilMp] at hn
      · subst hn; exact .inl ⟨rfl,hr⟩
    | rf k id=>cases k <;> simp [nilMp] at hn; subst hn; obtain ⟨b,_,rfl⟩:=hr; exact .inr ⟨rfl,_,rfl⟩
    | _=>simp [nilMp] at hn
  have nF:∀ {z:AVal} {v:Value} {c:Bool},RepA g s w z v→nilFn z=some c→(c=true∧v = .nilFunc) ∨ (c=false ∧ ∃ f a b,v = .func f a b):=by
    intro z v c hr hn
    cases z with
    | p x =>
      cases x <;> simp [nilFn] at hn
      · subst hn; exact .inl ⟨rfl,hr⟩
      · subst hn; obtain ⟨vs,rfl,_⟩:=hr; exact .inr ⟨rfl,_,_,_,rfl⟩
    | fn f cap=>simp [nilFn] at hn; subst hn; obtain ⟨vs,rfl,_⟩:=hr; exact .inr ⟨rfl,_,_,_,rfl⟩
    | fnb f cap=>simp [nilFn] at hn; subst hn; obtain ⟨vs,rfl,_⟩:=hr; exact .inr ⟨rfl,_,_,_,rfl⟩
    | rf k id=>cases k <;> simp [nilFn] at hn; subst hn; obtain ⟨b,_,rfl⟩:=hr; exact .inr ⟨rfl,_,_,_,rfl⟩
    | _=>simp [nilFn] at hn
  have nI:∀ {z:AVal} {v:Value} {c:Bool},RepA g s w z v→nilIf z=some c→(c=true∧v = .nilIface) ∨ (c=false ∧ ∃ t u,v = .iface t u):=by
    intro z v c hr hn
    cases z with
    | p x =>
      cases x <;> simp [nilIf] at hn
      · subst hn; exact .inl ⟨rfl,hr⟩
      · subst hn; obtain ⟨y,rfl,_⟩:=hr; exact .inr ⟨rfl,_,_,rfl⟩
    | iface t u=>simp [nilIf] at hn; subst hn; obtain ⟨y,rfl,_⟩:=hr; exact .inr ⟨rfl,_,_,rfl⟩
    | _=>simp [nilIf] at hn
  have nq:∀ {p q:Option Bool},nilEq p q=some b→(p=some true∧q=some b) ∨ (p=some false∧q=some true∧b=false):=by
    intro p q hn
    unfold nilEq at hn
    split at hn <;> simp at hn
    · subst hn; exact .inl ⟨rfl,rfl⟩
    · subst hn; exact .inr ⟨rfl,rfl,rfl⟩
  unfold eqv at h
  split at h
  · rename_i hu
    split at h <;> simp at h
    rename_i c d
    subst h
    have e1:vx = .bool c:=hx
    have e2:vy = .bool d:=hy
    subst e1; subst e2
    exact ⟨abJ hu rfl,by simp,by simp,by simp,by simp,by simp⟩
  · rename_i e hu
    rcases nq h with ⟨h1,h2⟩ | ⟨h1,h2,rfl⟩
    · rcases nS hx h1 with ⟨_,rfl⟩ | ⟨h0,_⟩
      · rcases nS hy h2 with ⟨rfl,rfl⟩ | ⟨rfl,a,n,m,rfl⟩ <;> exact ⟨abJ hu rfl,by simp,by simp,by simp,by simp,by simp⟩
      · simp at h0
    · rcases nS hx h1 with ⟨h0,_⟩ | ⟨_,a,n,m,rfl⟩
      · simp at h0
      · rcases nS hy h2 with ⟨_,rfl⟩ | ⟨h0,_⟩
        · exact ⟨abJ hu rfl,by simp,by simp,by simp,by simp,by simp⟩
        · simp at h0
  · rename_i e hu
    rcases nq h with ⟨h1,h2⟩ | ⟨h1,h2,rfl⟩
    · rcases nP hx h1 with ⟨_,rfl⟩ | ⟨h0,_⟩
      · rcases nP hy h2 with ⟨rfl,rfl⟩ | ⟨rfl,a,rfl⟩ <;> exact ⟨abJ hu rfl,by simp,by simp,by simp,by simp,by simp⟩
      · simp at h0
    · rcases nP hx h1 with ⟨h0,_⟩ | ⟨_,a,rfl⟩
      · simp at h0
      · rcases nP hy h2 with ⟨_,rfl⟩ | ⟨h0,_⟩
        · exact ⟨abJ hu rfl,by simp,by simp,by simp,by simp,by simp⟩
        · simp at h0
  · rename_i e1 e2 hu
    rcases nq h with ⟨h1,h2⟩ | ⟨h1,h2,rfl⟩
    · rcases nM hx h1 with ⟨_,rfl⟩ | ⟨h0,_⟩
      · rcases nM hy h2 with ⟨rfl,rfl⟩ | ⟨rfl,a,rfl⟩ <;> exact ⟨abJ hu rfl,by simp,by simp,by simp,by simp,by simp⟩
      · simp at h0
    · rcases nM hx h1 with ⟨h0,_⟩ | ⟨_,a,rfl⟩
      · simp at h0
      · rcases nM hy h2 with ⟨_,rfl⟩ | ⟨h0,_⟩
        · exact ⟨abJ hu rfl,by simp,by simp,by simp,by simp,by simp⟩
        · simp at h0
  · rename_i e1 e2 e3 hu
    rcases nq h with ⟨h1,h2⟩ | ⟨h1,h2,rfl⟩
    · rcases nF hx h1 with ⟨_,rfl⟩ | ⟨h0,_⟩
      · rcases nF hy h2 with ⟨rfl,rfl⟩ | ⟨rfl,a,c,d,rfl⟩ <;> exact ⟨abJ hu rfl,by simp,by simp,by simp,by simp,by simp⟩
      · simp at h0
    · rcases nF hx h1 with ⟨h0,_⟩ | ⟨_,a,c,d,rfl⟩
      · simp at h0
      · rcases nF hy h2 with ⟨_,rfl⟩ | ⟨h0,_⟩
        · exact ⟨abJ hu rfl,by simp,by simp,by simp,by simp,by simp⟩
        · simp at h0
  · rename_i e1 hu
    rcases nq h with ⟨h1,h2⟩ | ⟨h1,h2,rfl⟩
    · rcases nI hx h1 with ⟨_,rfl⟩ | ⟨h0,_⟩
      · rcases nI hy h2 with ⟨rfl,rfl⟩ | ⟨rfl,a,c,rfl⟩ <;> exact ⟨abJ hu rfl,by simp,by simp,by simp,by simp,by simp⟩
      · simp at h0
    · rcases nI hx h1 with ⟨h0,_⟩ | ⟨_,a,c,rfl⟩
      · simp at h0
      · rcases nI hy h2 with ⟨_,rfl⟩ | ⟨h0,_⟩
        · exact ⟨abJ hu rfl,by simp,by simp,by simp,by simp,by simp⟩
        · simp at h0
  · simp at h
end
end Go.Proofs.YtdnbnpknpejpdaaGreatDoor.Sw
namespace Go.Proofs.YtdnbnpknpejpdaaGreatDoor.Sw
section
variable {P:Program} {g:Sg} {s:Sto} {w:World}
theorem eqGuard_run {op:BinOp} {t:Nat} {x y:Operand} {a b:Value} (h1:¬ (a = .nilIface∧b = .nilIface) ∨ (isConst x || isConst y)=true) (h2:∀ c,a ≠ .agg c) :
    (eqGuard op t x y a b).run P w = .ok () w:=by
  unfold eqGuard
  by_cases hn:a = .nilIface∧b = .nilIface
  · obtain ⟨rfl,rfl⟩:=hn
    have hc:=h1.resolve_left (fun h=>h ⟨rfl,rfl⟩)
    cases op <;> first | rfl | (cases x <;> cases y <;> first | rfl | (simp [isConst] at hc))
  · cases op <;> first | rfl | (cases a <;> first | rfl | exact absurd rfl (h2 _) | (cases b <;> first | rfl | exact absurd ⟨rfl,rfl⟩ hn))
theorem acW {t:Nat} {x y:PVal} {vx vy:Value} {b:Bool} {d:Nat} (hx:RepP g.imm w x vx) (hy:RepP g.imm w y vy) (h:ab9 (P.underlying t) x y=some b):(Op.equalIn (d + 1) t vx vy).run P w = .ok b w:=by
  unfold ab9 at h
  split at h
  · rename_i hd
    split at h <;> simp at h
    rename_i hk
    simp at hk
    subst h; subst hk
    have e1:vx = .int _ _:=hx
    have e2:vy = .int _ _:=hy
    subst e1 e2
    simp [Op.equalIn,aaa hd]
  · rename_i hd
    simp at h
    subst h
    obtain ⟨u,rfl,h1⟩:=hx
    obtain ⟨r,rfl,h2⟩:=hy
    simp only [Op.equalIn,Sem.run_bind,aaa hd,Result.andThen_ok,Sem.run_pure]
    rw [beq_toListBytes,acZ,acZ,adw, ← h1, ← h2,afL]
  · rename_i hd
    simp at h
    subst h
    have e1:vx = .bool _:=hx
    have e2:vy = .bool _:=hy
    subst e1 e2
    simp [Op.equalIn,aaa hd]
  · simp at h
theorem ah5 {d:Nat} {a b:List PVal} {va vb:List Value} (ha:RepPs g.imm w a va) (hb:RepPs g.imm w b vb):∀ {fs:List Field} {r:Bool},ac1 P fs a b=some r →
    (Op.eqFields (d + 1) va.toArray vb.toArray fs).run P w = .ok r w
  | [],r,h=>by
    simp [ac1] at h
    subst h
    rfl
  | f :: fs,r,h=>by
    simp only [ac1] at h
    split at h <;> try (simp at h; done)
    rename_i x y h1 h2 h3 h4
    rw [nth_eq] at h3 h4
    obtain ⟨vx,q1,q2⟩:=RepPs.get ha h3
    obtain ⟨vy,q3,q4⟩:=RepPs.get hb h4
    have hne:f.name ≠ "_" := by simpa using h1
    have p1:(Go.part f.type va.toArray f.offset).run P w = .ok vx w:=by simp [Go.part,abY h2,q1]
    have p2:(Go.part f.type vb.toArray f.offset).run P w = .ok vy w:=by simp [Go.part,abY h2,q3]
    simp only [Op.eqFields,hne,ne_eq,not_false_eq_true,if_true,Sem.run_bind,p1,p2,Result.andThen_ok]
    split at h
    · rename_i hs
      simp only [acW q2 q4 hs,Result.andThen_ok,Bool.not_true,Bool.false_eq_true,if_false]
      exact ah5 ha hb h
    · rename_i hno
      cases r with
      | true=>exact absurd h hno
      | false=>simp only [acW q2 q4 h,Result.andThen_ok,Bool.not_false,if_true,Sem.run_pure]
theorem anB {d e c:Nat} {a b:List PVal} {va vb:List Value} (hg:aggT P e=some false) (ha:RepPs g.imm w a va) (hb:RepPs g.imm w b vb):∀ {i k:Nat} {r:Bool},aie P e c a b i k=some r →
    (Op.eqItems (d + 1) e c va.toArray vb.toArray (List.range' i k)).run P w = .ok r w
  | i,0,r,h=>by
    simp [aie] at h
    subst h
    rfl
  | i,k + 1,r,h=>by
    simp only [aie] at h
    split at h <;> try (simp at h; done)
    rename_i x y h3 h4
    rw [nth_eq] at h3 h4
    obtain ⟨vx,q1,q2⟩:=RepPs.get ha h3
    obtain ⟨vy,q3,q4⟩:=RepPs.get hb h4
    have p1:(Go.part e va.toArray (i * c)).run P w = .ok vx w:=by simp [Go.part,abY hg,q1]
    have p2:(Go.part e vb.toArray (i * c)).run P w = .ok vy w:=by simp [Go.part,abY hg,q3]
    rw [List.range'_succ]
    simp only [Op.eqItems,Sem.run_bind,p1,p2,Result.andThen_ok]
    split at h
    · rename_i hs
      simp only [acW q2 q4 hs,Result.andThen_ok,Bool.not_true,Bool.false_eq_true,if_false]
      exact anB hg ha hb h
    · rename_i hno
      cases r with
      | true=>exact absurd h hno
      | false=>simp only [acW q2 q4 h,Result.andThen_ok,Bool.not_false,if_true,Sem.run_pure]
theorem agi {t:Nat} {a b:List PVal} {vx vy:Value} {r:Bool} (hx:RepP g.imm w (.agg a) vx) (hy:RepP g.imm w (.agg b) vy) (h:structEq P t a b=some r):(Op.equal t vx vy).run P w = .ok r w:=by
  obtain ⟨va,rfl,h1,_⟩:=hx
  obtain ⟨vb,rfl,h2,_⟩:=hy
  unfold structEq at h
  split at h
  · rename_i n e hu
    split at h <;> try (simp at h; done)
    rename_i c hg hsz
    have hi:∃ i,P.info? e=some i∧P.cellsOf e=c:=by
      simp only [szT,Option.map_eq_some_iff] at hsz
      obtain ⟨i,h3,h4⟩:=hsz
      exact ⟨i,h3,by simp [Program.cellsOf,h3,h4]⟩
    obtain ⟨i,h3,h4⟩:=hi
    rw [show Op.equal t (.agg va.toArray) (.agg vb.toArray)=Op.equalIn (9999 + 1) t (.agg va.toArray) (.agg vb.toArray) from rfl,run_equalIn_array w 9999 _ _ hu h3,h4,List.range_eq_range']
    exact anB (d:=9998) hg h1 h2 h
  rotate_left
  · simp at h
  rename_i fs hu
  split at h <;> try (simp at h; done)
  rename_i hst
  have hf:P.fieldsOf t=fs:=by simp [Program.fieldsOf,hu]
  rw [show Op.equal t (.agg va.toArray) (.agg vb.toArray)=Op.equalIn (9999 + 1) t (.agg va.toArray) (.agg vb.toArray) from rfl,run_equalIn_struct w 9999 t _ _ (by rw [hf]; exact hu) hst,hf]
  exact ah5 h1 h2 h
theorem binary_run {a:Act} {o:Oper} {op:BinOp} {t ty:Nat} {ox oy:Operand} {x y z:AVal} (ho:o.op = .binOp op t ox oy ty)
    (hx:RepA g s w x (a.eval ox)) (hy:RepA g s w y (a.eval oy)) (h:binary P op t ox oy x y=some z) :
    ∃ v,(execOp a.eval o).run P w = .ok (.value v) w∧RepA g s w z v:=by
  have fin:∀ {u v:Value},u=a.eval ox→v=a.eval oy→(¬ (u = .nilIface∧v = .nilIface) ∨ (isConst ox || isConst oy)=true)→(∀ c,u ≠ .agg c) →
      (∃ r,(binOp op t u v).run P w = .ok r w∧RepA g s w z r) → ∃ v,(execOp a.eval o).run P w = .ok (.value v) w∧RepA g s w z v:=by
    intro u v hu hv h1 h2 ⟨r,hr,hz⟩
    subst hu; subst hv
    refine ⟨r, ?_,hz⟩
    simp only [execOp,ho,Sem.run_bind,eqGuard_run h1 h2,Result.andThen_ok,hr]
    rfl
  unfold binary at h
  split at h
  · rename_i k c k' d
    have e1:a.eval ox = .int k c:=hx
    have e2:a.eval oy = .int k' d:=hy
    have nn:¬ ((Value.int k c) = .nilIface∧(Value.int k' d) = .nilIface) ∨ (isConst ox || isConst oy)=true:=.inl (by simp)
    split at h
    · simp only [Option.map_eq_some_iff] at h
      obtain ⟨p,h1,rfl⟩:=h
      exact fin e1.symm e2.symm nn (by simp) (amc h1 (.inl rfl))
    · simp only [Option.map_eq_some_iff] at h
      obtain ⟨p,h1,rfl⟩:=h
      exact fin e1.symm e2.symm nn (by simp) (amc h1 (.inr rfl))
    · rename_i hs hs'
      split at h
      · rename_i hk
        subst hk
        simp only [Option.map_eq_some_iff] at h
        obtain ⟨p,h1,rfl⟩:=h
        exact fin e1.symm e2.symm nn (by simp) (intBin_run hs hs' h1)
      · simp at h
  · rename_i c d
    simp only [Option.map_eq_some_iff] at h
    obtain ⟨p,h1,rfl⟩:=h
    have hx':=hx
    obtain ⟨u,e1,_⟩:=hx'
    exact fin rfl rfl (.inl (by rw [e1]; simp)) (by rw [e1]; simp) (strBin_run hx hy h1)
  · rename_i c d
    have hx':=hx
    have hy':=hy
    obtain ⟨vc,e1,_⟩:=hx'
    obtain ⟨vd,e2,_⟩:=hy'
    split at h <;> try (simp at h; done)
    · rename_i hm
      simp only [Option.map_eq_some_iff] at h
      obtain ⟨b,h1,rfl⟩:=h
      have hq:=agi (P:=P) hx hy h1
      refine ⟨.bool b, ?_,rfl⟩
      rw [e1,e2] at hq
      simp only [execOp,ho,Sem.run_bind,e1,e2,run_eqGuard_agg w _ _ _ _ _ _ hm,Result.andThen_ok,run_eql_struct]
      rw [show Op.equalIn 10000 t (.agg vc.toArray) (.agg vd.toArray)=Op.equal t (.agg vc.toArray) (.agg vd.toArray) from rfl,hq]
      rfl
    · rename_i hm
      simp only [Option.map_eq_some_iff] at h
      obtain ⟨b,h1,rfl⟩:=h
      have hq:=agi (P:=P) hx hy h1
      refine ⟨.bool (!b), ?_,rfl⟩
      rw [e1,e2] at hq
      simp only [execOp,ho,Sem.run_bind,e1,e2,run_eqGuard_agg w _ _ _ _ _ _ hm,Result.andThen_ok,run_neq_struct]
      rw [show Op.equalIn 10000 t (.agg vc.toArray) (.agg vd.toArray)=Op.equal t (.agg vc.toArray) (.agg vd.toArray) from rfl,hq]
      rfl
  · split at h
    · split at h
      · simp at h
      · rename_i hb
        simp only [Option.map_eq_some_iff] at h
        obtain ⟨b,h1,rfl⟩:=h
        obtain ⟨hr,n1,n2,n3,n4,n5⟩:=eqv_run hx hy h1
        refine fin rfl rfl ?_ n5 ⟨.bool b, ?_,rfl⟩
        · by_cases hc:(isConst ox || isConst oy)=true
          · exact .inr hc
          · refine .inl (fun ⟨h2,h3⟩=>?_)
            have hbn:afS x y=true:=by
              cases x with
              | p x' =>
                        cases x' <;> first | (have:=hx; rw [h2] at this; simp [RepA,RepP] at this; done) | skip
                        cases y with
                        | p y'=>cases y' <;> first | rfl | (have:=hy; rw [h3] at this; simp [RepA,RepP] at this; done)
                        | junk=>unfold eqv at h1; split at h1 <;> simp [nilIf,nilSl,nilPt,nilMp,nilFn,nilEq] at h1
                        | rf k _=>have:=hy; rw [h3] at this; obtain ⟨_,_,e⟩:=this; cases k <;> simp [refVal] at e
                        | _=>have:=hy; rw [h3] at this; simp [RepA] at this
              | junk=>unfold eqv at h1; split at h1 <;> simp [nilIf,nilSl,nilPt,nilMp,nilFn,nilEq] at h1
              | rf k _=>have:=hx; rw [h2] at this; obtain ⟨_,_,e⟩:=this; cases k <;> simp [refVal] at e
              | _=>have:=hx; rw [h2] at this; simp [RepA] at this
            rw [hbn] at hb
            simp at hb hc
            simp [hc] at hb
        · generalize a.eval ox=u at *
          cases u <;> first
            | exact absurd rfl (n1 _ _) | exact absurd rfl (n2 _) | exact absurd rfl (n3 _ _) | exact absurd rfl (n4 _ _ _)
            | (simp only [binOp,Sem.run_bind,hr,Result.andThen_ok]; rfl)
    · split at h
      · simp at h
      · rename_i hb
        simp only [Option.map_eq_some_iff] at h
        obtain ⟨b,h1,rfl⟩:=h
        obtain ⟨hr,n1,n2,n3,n4,n5⟩:=eqv_run hx hy h1
        refine fin rfl rfl ?_ n5 ⟨.bool (!b), ?_,rfl⟩
        · by_cases hc:(isConst ox || isConst oy)=true
          · exact .inr hc
          · refine .inl (fun ⟨h2,h3⟩=>?_)
            have hbn:afS x y=true:=by
              cases x with
              | p x' =>
                        cases x' <;> first | (have:=hx; rw [h2] at this; simp [RepA,RepP] at this; done) | skip
                        cases y with
                        | p y'=>cases y' <;> first | rfl | (have:=hy; rw [h3] at this; simp [RepA,RepP] at this; done)
                        | junk=>unfold eqv at h1; split at h1 <;> simp [nilIf,nilSl,nilPt,nilMp,nilFn,nilEq] at h1
                        | rf k _=>have:=hy; rw [h3] at this; obtain ⟨_,_,e⟩:=this; cases k <;> simp [refVal] at e
                        | _=>have:=hy; rw [h3] at this; simp [RepA] at this
              | junk=>unfold eqv at h1; split at h1 <;> simp [nilIf,nilSl,nilPt,nilMp,nilFn,nilEq] at h1
              | rf k _=>have:=hx; rw [h2] at this; obtain ⟨_,_,e⟩:=this; cases k <;> simp [refVal] at e
              | _=>have:=hx; rw [h2] at this; simp [RepA] at this
            rw [hbn] at hb
            simp at hb hc
            simp [hc] at hb
        · generalize a.eval ox=u at *
          cases u <;> first
            | exact absurd rfl (n1 _ _) | exact absurd rfl (n2 _) | exact absurd rfl (n3 _ _) | exact absurd rfl (n4 _ _ _)
            | (simp only [binOp,Sem.run_bind,hr,Result.andThen_ok]; rfl)
    · simp at h
theorem unary_run {op:UnOp} {x z:AVal} {v:Value} (hx:RepA g s w x v) (h:unary op x=some z):∃ u,(Op.unary op v).run P w = .ok u w∧RepA g s w z u:=by
  unfold unary at h
  split at h
  · simp at h
    subst h
    have e:v = .int _ _:=hx
    subst e
    exact ⟨_,by simp [Op.unary,Op.intArith]; rfl,by simp [RepA,RepP]⟩
  · simp at h
    subst h
    have e:v = .bool _:=hx
    subst e
    exact ⟨_,by simp [Op.unary],rfl⟩
  · rename_i k n
    simp only [Option.map_eq_some_iff] at h
    obtain ⟨q,h1,rfl⟩:=h
    have e:v = .int k n:=hx
    subst e
    obtain ⟨u,h2,h3⟩:=intBin_run (P:=P) (w:=w) (g:=g) (t:=0) (by simp) (by simp) h1
    exact ⟨u,by simpa [Op.unary,binOp] using h2,h3⟩
  · simp at h
theorem conv_run {src dst:Nat} {x z:AVal} {v:Value} (hx:RepA g s w x v) (h:conv P src dst x=some z):∃ u,(convert src dst v).run P w = .ok u w∧RepA g s w z u:=by
  unfold conv at h
  split at h
  · rename_i k k' n hd
    split at h <;> simp at h
    rename_i k2 hs
    subst h
    have e:v = .int _ _:=hx
    subst e
    exact ⟨_,by simp [convert,aaa hs,aaa hd,Conv.intToInt],rfl⟩
  · rename_i bs hd
    split at h <;> simp at h
    rename_i hs
    subst h
    obtain ⟨t,rfl,ht⟩:=hx
    exact ⟨_,by simp [convert,aaa hs,aaa hd],⟨t,rfl,ht⟩⟩
  · rename_i k n hd
    split at h <;> simp at h
    rename_i k2 hs hb
    subst h
    have e:v = .int k (Int.ofNat n):=hx
    subst e
    have hlt:n < 128:=by
      have:Nat.ble (n + 1) 128=true:=hb
      exact Nat.le_of_ble_eq_true this
    have henc:Utf8.encode (Int.ofNat n) = ⟨#[UInt8.ofNat n]⟩:=by
      have hv:Utf8.valid (Int.ofNat n)=true:=by
        unfold Utf8.valid
        simp
        omega
      unfold Utf8.encode
      rw [hv]
      simp only [if_true]
      rw [show (Int.ofNat n).toNat=n from rfl]
      simp [hlt]
    have h2:Utf8.encode (n:Int) = ⟨#[UInt8.ofNat n]⟩:=henc
    refine ⟨.string ⟨#[UInt8.ofNat n]⟩,by simp [convert,aaa hs,aaa hd,Conv.intToString,h2],⟨_,rfl, ?_⟩⟩
    simp
    omega
  · simp at h
theorem run_part {t:Nat} {gg:Bool} {n off:Nat} {cs:List Value} {v:Value} (hg:aggT P t=some gg) (hn:szT P t=some n)
    (h1:gg=true→off + n≤cs.length∧v = .agg ((cs.drop off).take n).toArray) (h2:gg=false→cs[off]? = some v) :
    (Go.part t cs.toArray off).run P w = .ok v w:=by
  unfold Go.part
  simp only [Sem.run_bind,abY hg,Result.andThen_ok]
  cases gg with
  | true =>
    obtain ⟨hl,rfl⟩:=h1 rfl
    simp only [if_true,Sem.run_bind,aaw hn,Result.andThen_ok,Sem.run_pure]
    congr 2
    simp [List.extract_toArray]
  | false =>
    have:=h2 rfl
    simp [this]
theorem partV_run {t:Nat} {gg:Bool} {n off:Nat} {x z:AVal} {v:Value} (hg:aggT P t=some gg) (hn:szT P t=some n) (hx:RepA g s w x v) (h:partV gg x off n=some z) :
    ∃ cs u,v = .agg cs∧(Go.part t cs off).run P w = .ok u w∧RepA g s w z u:=by
  unfold partV at h
  split at h
  · simp only [Option.map_eq_some_iff] at h
    obtain ⟨y,h1,rfl⟩:=h
    obtain ⟨vs,rfl,hr,hc⟩:=hx
    obtain ⟨u,a,b,c⟩:=partP_rep hr hc h1
    exact ⟨_,u,rfl,run_part hg hn b c,a⟩
  · obtain ⟨vs,rfl,hr,hc⟩:=hx
    obtain ⟨u,a,b,c⟩:=part_rep hr hc h
    exact ⟨_,u,rfl,run_part hg hn b c,a⟩
  · simp at h
theorem field_run {t f:Nat} {x z:AVal} {v:Value} (hx:RepA g s w x v) (h:ap2 P t f x=some z):∃ u,(Instr.field t v f).run P w = .ok u w∧RepA g s w z u:=by
  unfold ap2 at h
  split at h
  · rename_i fd hf
    split at h
    · rename_i n gg hn hg
      obtain ⟨cs,u,rfl,h1,h2⟩:=partV_run hg hn hx h
      unfold fieldT at hf
      split at hf
      · rename_i fs hu
        refine ⟨u, ?_,h2⟩
        simp only [Instr.field,Sem.run_bind,aaa hu,Result.andThen_ok,hf,asAgg,Sem.run_pure,h1]
      · simp at hf
    · simp at h
  · simp at h
theorem agE {x:AVal} {v:Value} {n:Nat} (hx:RepA g s w x v) (h:natOf x=some n):∃ k,v = .int k (n:Int):=by
  unfold natOf at h
  split at h <;> simp at h
  subst h
  exact ⟨_,hx⟩
theorem index_run {t:Nat} {x i z:AVal} {v vi:Value} (hx:RepA g s w x v) (hi:RepA g s w i vi) (h:apv P t x i=some z) :
    ∃ u,(Instr.index t v vi).run P w = .ok u w∧RepA g s w z u:=by
  unfold apv at h
  split at h
  · rename_i n hn
    obtain ⟨k,rfl⟩:=agE hi hn
    split at h
    · rename_i hu
      split at h
      · rename_i bs
        simp only [nth_eq,Option.map_eq_some_iff] at h
        obtain ⟨b,h1,rfl⟩:=h
        obtain ⟨r,rfl,rfl⟩:=hx
        simp only [List.getElem?_map,Option.map_eq_some_iff] at h1
        obtain ⟨c,h1,rfl⟩:=h1
        have hlt:n < r.size:=by
          have:=(List.getElem?_eq_some_iff.1 h1).1
          simpa using this
        have hc:r[n]? = some c:=by
          rw [ByteArray.getElem?_lt' r n hlt]
          have:=(List.getElem?_eq_some_iff.1 h1).2
          simp at this
          exact congrArg some this
        refine ⟨.int .u8 c.toNat, ?_,rfl⟩
        simp [Instr.index,asIntOf,aaa hu,hc]
      · simp at h
    · rename_i len e hu
      split at h
      · rename_i sz gg hsz hgg
        split at h
        · rename_i hb
          have hlt:n < len:=by
            have:Nat.ble (n + 1) len=true:=hb
            exact Nat.le_of_ble_eq_true this
          obtain ⟨cs,u,rfl,h1,h2⟩:=partV_run hgg hsz hx h
          refine ⟨u, ?_,h2⟩
          have hc:(0:Int)≤(n:Int)∧(n:Int) < (len:Int):=by omega
          simp only [Instr.index,asIntOf,Sem.run_bind,Sem.run_pure,Result.andThen_ok,aaa hu]
          rw [if_pos hc]
          simp only [Sem.run_bind,aaw hsz,Result.andThen_ok,Int.toNat_natCast,h1]
        · simp at h
      · simp at h
    · simp at h
  · simp at h
theorem extract_run {x z:AVal} {v:Value} {i:Nat} (hx:RepA g s w x v) (h:ap3 x i=some z):∃ u,(Instr.extract v i).run P w = .ok u w∧RepA g s w z u:=by
  unfold ap3 at h
  split at h
  · simp only [nth_eq,Option.map_eq_some_iff] at h
    obtain ⟨y,h1,rfl⟩:=h
    obtain ⟨vs,rfl,hr⟩:=hx
    obtain ⟨u,a,b⟩:=hr.get h1
    exact ⟨u,by simp [Instr.extract,a],b⟩
  · simp only [nth_eq] at h
    obtain ⟨vs,rfl,hr⟩:=hx
    obtain ⟨u,a,b⟩:=hr.get h
    exact ⟨u,by simp [Instr.extract,a],b⟩
  · simp at h
theorem cap_run {t ty:Nat} {x z:AVal} {v:Value} (hx:RepA g s w x v) (h:capOp P t x=some z):∃ u,(Builtin.cap_ #[t] ty #[v]).run P w = .ok u w∧RepA g s w z u:=by
  unfold capOp at h
  split at h <;> try (simp at h; done)
  rename_i e ht
  have key:∀ a n c,(Builtin.cap_ #[t] ty #[.slice a n c]).run P w = .ok (goInt c) w:=by
    intro a n c
    simp [Builtin.cap_,aaa ht]
  split at h <;> simp at h <;> subst h
  · have hx:v = .slice none 0 0:=hx
    subst hx
    exact ⟨_,key _ _ _,rfl⟩
  · rcases hx with ⟨b,o,sz,vs,rfl,_⟩ | ⟨rfl,a,rfl⟩
    · exact ⟨_,key _ _ _,rfl⟩
    · exact ⟨_,key _ _ _,rfl⟩
  · obtain ⟨b,o,cap,rfl,_,hc,_⟩:=hx
    rw [← hc rfl]
    exact ⟨_,key _ _ _,rfl⟩
theorem len_run {t ty:Nat} {x z:AVal} {v:Value} (hx:RepA g s w x v) (h:lenOp P t x=some z):∃ u,(Builtin.len_ #[t] ty #[v]).run P w = .ok u w∧RepA g s w z u:=by
  unfold lenOp at h
  split at h
  · rename_i hu
    split at h <;> simp at h
    subst h
    obtain ⟨r,rfl,rfl⟩:=hx
    exact ⟨.int .i64 r.size,by simp [Builtin.len_,aaa hu,goInt],by simp [RepA,RepP]⟩
  · rename_i n e hu
    simp at h
    subst h
    exact ⟨.int .i64 n,by simp [Builtin.len_,aaa hu,goInt],by simp [RepA,RepP]⟩
  · rename_i e hu
    split at h <;> simp at h <;> subst h
    · have e:v = .slice none 0 0:=hx
      subst e
      exact ⟨.int .i64 0,by simp [Builtin.len_,aaa hu,goInt],rfl⟩
    · rename_i xs
      rcases hx with ⟨b,o,cap,sz,vs,rfl,_⟩ | ⟨rfl,a,cap,rfl⟩
      · exact ⟨.int .i64 xs.length,by simp [Builtin.len_,aaa hu,goInt],rfl⟩
      · exact ⟨.int .i64 0,by simp [Builtin.len_,aaa hu,goInt],rfl⟩
    · rename_i xs
      rcases hx with ⟨b,o,sz,vs,rfl,_⟩ | ⟨rfl,a,rfl⟩
      · exact ⟨.int .i64 xs.length,by simp [Builtin.len_,aaa hu,goInt],rfl⟩
      · exact ⟨.int .i64 0,by simp [Builtin.len_,aaa hu,goInt],rfl⟩
    · rename_i id ep off len c
      obtain ⟨b,o,cap,rfl,_⟩:=hx
      exact ⟨.int .i64 len,by simp [Builtin.len_,aaa hu,goInt],rfl⟩
  · simp at h
end
end Go.Proofs.YtdnbnpknpejpdaaGreatDoor.Sw
namespace Go.Proofs.YtdnbnpknpejpdaaGreatDoor.Sw
section
variable {P:Program} {g:Sg} {s:Sto} {w:World}
def RepO (g:Sg) (s:Sto) (w:World):Option AVal→Option Value→Prop
  | none,none=>True
  | some x,some v=>RepA g s w x v
  | _,_=>False
theorem ah4 {v:Value} {x:AVal} {n y:Nat} {code:BoundsCode} (hx:RepA g s w x v) (hn:natOf x=some n) (hle:n≤y) :
    (Instr.sliceBound v y code).run P w = .ok n w:=by
  obtain ⟨k,rfl⟩:=agE hx hn
  have hc:(0:Int)≤(n:Int)∧(n:Int)≤(y:Int):=by omega
  simp only [Instr.sliceBound,asIntOf,Sem.run_bind,Sem.run_pure,Result.andThen_ok]
  rw [if_pos hc]
  simp
theorem bound_run {x:Option AVal} {v:Option Value} {d n:Nat} (hx:RepO g s w x v) (h:bound x d=some n) :
    (x=none∧v=none∧n=d) ∨ ∃ u,v=some u∧x.isSome=true ∧ ∀ y code,n≤y→(Instr.sliceBound u y code).run P w = .ok n w:=by
  cases x with
  | none=>cases v with
    | none=>simp [bound] at h; exact .inl ⟨rfl,rfl,h.symm⟩
    | some _=>exact hx.elim
  | some x=>cases v with
    | none=>exact hx.elim
    | some u=>exact .inr ⟨u,rfl,rfl,fun y code hle=>ah4 hx (by simpa [bound] using h) hle⟩
theorem ap8 {lo hi mx:Option AVal} {vlo vhi vmx:Option Value} {len cap l h:Nat} {c b:Bool} (h1:RepO g s w lo vlo) (h2:RepO g s w hi vhi) (h3:RepO g s w mx vmx)
    (hle:len≤cap) (hc:cut lo hi mx len=some (l,h,c)) :
    ∃ m,(Instr.sliceBounds b len cap vlo vhi vmx).run P w = .ok (l,h,m) w∧(c=false→m=cap)∧(c=true→m=h)∧l≤h∧h≤len:=by
  unfold cut at hc
  split at hc
  · rename_i l' h' e1 e2
    have r1:=bound_run (P:=P) h1 e1
    have r2:=bound_run (P:=P) h2 e2
    split at hc
    · rename_i b1 b2
      have hb1:=Nat.le_of_ble_eq_true b1
      have hb2:=Nat.le_of_ble_eq_true b2
      cases mx with
      | none =>
        simp at hc
        obtain ⟨rfl,rfl,rfl⟩:=hc
        cases vmx with
        | some _=>exact h3.elim
        | none =>
          refine ⟨cap, ?_,fun _=>rfl,by simp,hb1,hb2⟩
          unfold Instr.sliceBounds
          rcases r2 with ⟨_,rfl,rfl⟩ | ⟨u2,rfl,_,r2⟩
          · rcases r1 with ⟨_,rfl,rfl⟩ | ⟨u1,rfl,_,r1⟩
            · rfl
            · simp [r1 _ _ hb1]
          · rcases r1 with ⟨_,rfl,rfl⟩ | ⟨u1,rfl,_,r1⟩
            · simp [r2 _ _ (Nat.le_trans hb2 hle)]
            · simp [r2 _ _ (Nat.le_trans hb2 hle),r1 _ _ hb1]
      | some x =>
        simp only at hc
        cases hm:natOf x with
        | none=>simp [hm] at hc
        | some m =>
          cases hi with
          | none=>simp [hm] at hc
          | some hi' =>
            simp only [hm] at hc
            split at hc <;> simp at hc
            rename_i hmh
            have hmh' : m=h':=Nat.eq_of_beq_eq_true hmh
            subst hmh'
            obtain ⟨rfl,rfl,rfl⟩:=hc
            cases vmx with
            | none=>exact h3.elim
            | some v3 =>
              refine ⟨m, ?_,by simp,fun _=>rfl,hb1,hb2⟩
              have r3:∀ code,(Instr.sliceBound v3 cap code).run P w = .ok m w:=fun code=>ah4 h3 hm (by omega)
              unfold Instr.sliceBounds
              rcases r2 with ⟨h0,_,_⟩ | ⟨u2,rfl,_,r2⟩
              · simp at h0
              · rcases r1 with ⟨_,rfl,rfl⟩ | ⟨u1,rfl,_,r1⟩
                · simp [r3,r2 _ _ (Nat.le_refl _)]
                · simp [r3,r2 _ _ (Nat.le_refl _),r1 _ _ hb1]
    · simp at hc
  · simp at hc
theorem agQ {sz:Nat}:∀ {vs:List Value} (n:Nat),(∀ x ∈ vs,x.cells.size=sz) →
    (vs.drop n).flatMap (·.cells.toList)=(vs.flatMap (·.cells.toList)).drop (n * sz)
  | vs,0,_=>by simp
  | [],n + 1,_=>by simp
  | v :: vs,n + 1,hs=>by
    have hv:v.cells.toList.length=sz:=by simpa using hs v (by simp)
    have ih:=agQ (vs:=vs) n (fun x hx=>hs x (by simp [hx]))
    simp only [List.flatMap_cons,List.drop_succ_cons,ih]
    rw [show (n + 1) * sz=v.cells.toList.length + n * sz by rw [hv,Nat.add_mul]; omega, ← List.drop_drop,List.drop_left]
theorem aj9 {sz:Nat}:∀ {vs:List Value} (n:Nat),(∀ x ∈ vs,x.cells.size=sz) →
    (vs.take n).flatMap (·.cells.toList)=(vs.flatMap (·.cells.toList)).take (n * sz)
  | vs,0,_=>by simp
  | [],n + 1,_=>by simp
  | v :: vs,n + 1,hs=>by
    have hv:v.cells.toList.length=sz:=by simpa using hs v (by simp)
    have ih:=aj9 (vs:=vs) n (fun x hx=>hs x (by simp [hx]))
    simp only [List.flatMap_cons,List.take_succ_cons,ih]
    rw [show (n + 1) * sz=v.cells.toList.length + n * sz by rw [hv,Nat.add_mul]; omega,List.take_append,List.take_of_length_le (l:=v.cells.toList) (by omega)]
    simp
theorem aaH.sub {I:Nat→Nat→Prop} {b o:Nat} {cs:List Value} (k n:Nat) (h:aaH I w b o cs):aaH I w b (o + k) ((cs.drop k).take n):=by
  intro i c hi
  have:cs[k + i]? = some c:=by
    rw [List.getElem?_take] at hi
    split at hi
    · simpa using hi
    · simp at hi
  have:=h (k + i) c this
  rw [show o + k + i=o + (k + i) by omega]
  exact this
theorem aaH.nil {I:Nat→Nat→Prop} {b o:Nat}:aaH I w b o []:=fun i c hi=>by simp at hi
theorem slice_part {xs:List PVal} {vs:List Value} {b o sz l h:Nat} (hr:RepPs g.imm w xs vs) (hs:∀ x ∈ vs,x.cells.size=sz) (hc:aaH g.imm w b o (vs.flatMap (·.cells.toList))) :
    RepPs g.imm w ((xs.drop l).take (h - l)) ((vs.drop l).take (h - l))∧(∀ x ∈ (vs.drop l).take (h - l),x.cells.size=sz) ∧
      aaH g.imm w b (o + l * sz) (((vs.drop l).take (h - l)).flatMap (·.cells.toList)):=by
  refine ⟨RepPs.take _ (RepPs.drop _ hr),fun x hx=>hs x (List.mem_of_mem_drop (List.mem_of_mem_take hx)), ?_⟩
  have hs' : ∀ x ∈ vs.drop l,x.cells.size=sz:=fun x hx=>hs x (List.mem_of_mem_drop hx)
  rw [aj9 _ hs',agQ _ hs]
  exact hc.sub _ _
theorem wide_size {sz sz' : Nat} {xs:List PVal} {vs:List Value} (hr:RepPs g.imm w xs vs) (hs:∀ x ∈ vs,x.cells.size=sz) (hw:wide sz' xs=true) (hne:xs ≠ []):sz=sz':=by
  cases xs with
  | nil=>exact absurd rfl hne
  | cons x xs =>
    obtain ⟨v,vs,rfl,a,_⟩:=hr
    have h1:=hs v (by simp)
    have h2:(cellsP x).length=sz':=Nat.eq_of_beq_eq_true hw
    rw [← h1, ← h2]
    cases x with
    | agg cs=>obtain ⟨us,rfl,h3,_⟩:=a; simp [Value.cells,cellsP,RepPs.length h3]
    | bool _=>have e:v=_:=a; subst e; rfl
    | int _ _=>have e:v=_:=a; subst e; rfl
    | str _=>obtain ⟨_,rfl,_⟩:=a; rfl
    | nilp=>have e:v=_:=a; subst e; rfl
    | nils=>have e:v=_:=a; subst e; rfl
    | nilm=>have e:v=_:=a; subst e; rfl
    | nilf=>have e:v=_:=a; subst e; rfl
    | nili=>have e:v=_:=a; subst e; rfl
    | tup _=>obtain ⟨_,rfl,_⟩:=a; rfl
    | iface _ _=>obtain ⟨_,rfl,_⟩:=a; rfl
    | sl _=>rcases a with ⟨_,_,_,_,_,rfl,_⟩ | ⟨_,_,_,rfl⟩ <;> rfl
    | ip _=>obtain ⟨_,_,_,rfl,_⟩:=a; rfl
    | fn _ _=>obtain ⟨_,rfl,_⟩:=a; rfl
theorem slice_pure {e t:Nat} {xs:List PVal} {sz sz' l h b o cap:Nat} {c:Bool} {vs:List Value} {lo hi mx:Option AVal} {vlo vhi vmx:Option Value}
    (hu:P.underlying t=some (.slice e)) (hsz:szT P e=some sz) (h1:RepO g s w lo vlo) (h2:RepO g s w hi vhi) (h3:RepO g s w mx vmx)
    (hcap:xs.length≤cap) (hr:RepPs g.imm w xs vs) (hs:∀ x ∈ vs,x.cells.size=sz') (hcell:aaH g.imm w b o (vs.flatMap (·.cells.toList)))
    (hc:cut lo hi mx xs.length=some (l,h,c)) (hw:wide sz xs=true) :
    ∃ u,(Instr.slice t (.slice (some ⟨b,o,none⟩) xs.length cap) vlo vhi vmx).run P w = .ok u w ∧
      (c=false→RepA g s w (.p (.sl ((xs.drop l).take (h - l)))) u)∧(c=true→RepA g s w (.cl ((xs.drop l).take (h - l))) u):=by
  obtain ⟨m,hb,m1,m2,hlh,hhl⟩:=ap8 (P:=P) (b:=true) h1 h2 h3 hcap hc
  refine ⟨.slice (some (if m=l then ⟨b,o,none⟩ else (⟨b,o,none⟩:Addr).add (l * sz))) (h - l) (m - l), ?_, ?_⟩
  · simp only [Instr.slice,Sem.run_bind,aaa hu,Result.andThen_ok,hb,aaw hsz,Sem.run_pure]
    congr 1
    split <;> simp
  · have hlen:((xs.drop l).take (h - l)).length=h - l:=by simp; omega
    have key:∃ b' o',(if m=l then (⟨b,o,none⟩:Addr) else (⟨b,o,none⟩:Addr).add (l * sz)) = ⟨b',o',none⟩ ∧
        aaH g.imm w b' o' (((vs.drop l).take (h - l)).flatMap (·.cells.toList)):=by
      by_cases hml:m=l
      · have:h=l:=by
          cases c
          · have:=m1 rfl; omega
          · have:=m2 rfl; omega
        subst this
        exact ⟨b,o,by simp [hml],by simp [aaH.nil]⟩
      · rw [if_neg hml]
        by_cases hne:xs = []
        · subst hne
          have:vs = []:=hr
          subst this
          by_cases hz:l * sz=0
          · exact ⟨b,o,by simp [Addr.add,hz],by simp [aaH.nil]⟩
          · exact ⟨b,o + l * sz,by simp [Addr.add,hz],by simp [aaH.nil]⟩
        · have hss:=wide_size hr hs hw hne
          subst hss
          obtain ⟨_,_,h5⟩:=slice_part (l:=l) (h:=h) hr hs hcell
          by_cases hz:l * sz' = 0
          · rw [hz] at h5
            exact ⟨b,o,by simp [Addr.add,hz],by simpa using h5⟩
          · exact ⟨b,o + l * sz',by simp [Addr.add,hz],h5⟩
    obtain ⟨b',o',e,hcc⟩:=key
    obtain ⟨h5,h6,_⟩:=slice_part (l:=l) (h:=h) hr hs hcell
    rw [e]
    constructor
    · intro hcf
      have:=m1 hcf
      exact .inl ⟨b',o',m - l,sz',_,by rw [hlen],by rw [hlen]; omega,h5,h6,hcc⟩
    · intro hcf
      have:=m2 hcf
      subst this
      exact .inl ⟨b',o',sz',_,by rw [hlen],h5,h6,hcc⟩
theorem anz {e t:Nat} {sz l h cap:Nat} {a:Addr} {c:Bool} {lo hi mx:Option AVal} {vlo vhi vmx:Option Value}
    (hu:P.underlying t=some (.slice e)) (hsz:szT P e=some sz) (h1:RepO g s w lo vlo) (h2:RepO g s w hi vhi) (h3:RepO g s w mx vmx)
    (hc:cut lo hi mx ([]:List PVal).length=some (l,h,c)) :
    ∃ u,(Instr.slice t (.slice (some a) 0 cap) vlo vhi vmx).run P w = .ok u w ∧
      (c=false→RepA g s w (.p (.sl ((([]:List PVal).drop l).take (h - l)))) u)∧(c=true→RepA g s w (.cl ((([]:List PVal).drop l).take (h - l))) u):=by
  obtain ⟨m,hb,m1,m2,hlh,hhl⟩:=ap8 (P:=P) (b:=true) h1 h2 h3 (Nat.zero_le cap) hc
  have hhl:h≤0:=hhl
  have e1:h=0:=by omega
  have e2:l=0:=by omega
  subst e1; subst e2
  refine ⟨.slice (some (if m=0 then a else a.add (0 * sz))) (0 - 0) (m - 0), ?_, ?_, ?_⟩
  · simp only [Instr.slice,Sem.run_bind,aaa hu,Result.andThen_ok,hb,aaw hsz,Sem.run_pure]
    congr 1
    split <;> simp
  · intro _; exact .inr ⟨by simp,_,_,rfl⟩
  · intro hc
    have:=m2 hc
    subst this
    exact .inr ⟨by simp,_,rfl⟩
theorem sliceOp_run {t:Nat} {S:St} {x:AVal} {lo hi mx:Option AVal} {v:Value} {vlo vhi vmx:Option Value} {e:Eff} (hs:∀ id,s id=S.get id)
    (hx:RepA g s w x v) (h1:RepO g s w lo vlo) (h2:RepO g s w hi vhi) (h3:RepO g s w mx vmx) (h:afd P S t x lo hi mx=some e) :
    e.wr = [] ∧ ∃ u,(Instr.slice t v vlo vhi vmx).run P w = .ok u w∧RepA g s w e.v u:=by
  unfold afd at h
  split at h
  · rename_i hu
    split at h
    · rename_i bs
      split at h <;> simp at h
      rename_i l h' c hc
      subst h
      refine ⟨rfl, ?_⟩
      obtain ⟨r,rfl,rfl⟩:=hx
      cases vmx with
      | some _=>exact h3.elim
      | none =>
        have hsz:(r.data.toList.map UInt8.toNat).length=r.size:=by simp
        rw [hsz] at hc
        obtain ⟨m,hb,m1,m2,hlh,hhl⟩:=ap8 (P:=P) (b:=false) h1 h2 (show RepO g s w none none from trivial) (Nat.le_refl _) hc
        refine ⟨.string (r.extract l h'), ?_,r.extract l h',rfl, ?_⟩
        · simp [Instr.slice,aaa hu,hb]
        · rw [ByteArray.data_extract]
          simp [List.map_take,List.map_drop,Array.toList_extract]
    · simp at h
  · rename_i el hu
    split at h
    · rename_i sz hsz
      split at h
      · split at h <;> simp at h
        rename_i r hc
        subst h
        obtain ⟨l,h',c⟩:=r
        refine ⟨rfl, ?_⟩
        have e:v = .slice none 0 0:=hx
        subst e
        obtain ⟨m,hb,m1,m2,hlh,hhl⟩:=ap8 (P:=P) (b:=true) h1 h2 h3 (Nat.le_refl 0) hc
        have hh:h' = 0:=by omega
        have hl:l=0:=by omega
        subst hh; subst hl
        have hm:m=0:=by cases c; exact m1 rfl; exact m2 rfl
        subst hm
        exact ⟨.slice none 0 0,by simp [Instr.slice,aaa hu,hb,aaw hsz],rfl⟩
      · rename_i xs
        rcases hx with ⟨b,o,cap,sz',vs,rfl,hcap,hr,hss,hcell⟩ | ⟨rfl,a,cap,rfl⟩
        · split at h
          · rename_i l h' c hc hw
            obtain ⟨u,hrun,k1,k2⟩:=slice_pure hu hsz h1 h2 h3 hcap hr hss hcell hc hw
            split at h <;> simp at h <;> subst h
            · exact ⟨rfl,u,hrun,k1 rfl⟩
            · exact ⟨rfl,u,hrun,k2 rfl⟩
          · simp at h
        · split at h
          · rename_i l h' c hc hw
            obtain ⟨u,hrun,k1,k2⟩:=anz (a:=a) (cap:=cap) hu hsz h1 h2 h3 hc
            split at h <;> simp only [Option.some.injEq] at h <;> subst h
            · exact ⟨rfl,u,hrun,k1 rfl⟩
            · exact ⟨rfl,u,hrun,k2 rfl⟩
          · simp at h
      · rename_i xs
        rcases hx with ⟨b,o,sz',vs,rfl,hr,hss,hcell⟩ | ⟨rfl,a,rfl⟩
        · split at h
          · rename_i l h' c hc hw
            obtain ⟨u,hrun,k1,k2⟩:=slice_pure hu hsz h1 h2 h3 (Nat.le_refl _) hr hss hcell hc hw
            split at h <;> simp at h <;> subst h
            · exact ⟨rfl,u,hrun,k1 rfl⟩
            · exact ⟨rfl,u,hrun,k2 rfl⟩
          · simp at h
        · split at h
          · rename_i l h' c hc hw
            obtain ⟨u,hrun,k1,k2⟩:=anz (a:=a) (cap:=0) hu hsz h1 h2 h3 hc
            split at h <;> simp only [Option.some.injEq] at h <;> subst h
            · exact ⟨rfl,u,hrun,k1 rfl⟩
            · exact ⟨rfl,u,hrun,k2 rfl⟩
          · simp at h
      · rename_i id ep off len capd
        obtain ⟨b,o,cap,rfl,hcap,hcd,hv⟩:=hx
        split at h
        · rename_i l h' c sz' n xs cur lost fz hc hobj
          split at h
          · rename_i hsz'
            have:sz=sz':=Nat.eq_of_beq_eq_true hsz'
            subst this
            obtain ⟨m,hb,m1,m2,hlh,hhl⟩:=ap8 (P:=P) (b:=true) h1 h2 h3 hcap hc
            have hrun:(Instr.slice t (.slice (some ⟨b,o,none⟩) len cap) vlo vhi vmx).run P w = .ok (.slice (some (if m=l then ⟨b,o,none⟩ else (⟨b,o,none⟩:Addr).add (l * sz))) (h' - l) (m - l)) w:=by
              simp only [Instr.slice,Sem.run_bind,aaa hu,Result.andThen_ok,hb,aaw hsz,Sem.run_pure]
              congr 1
              split <;> simp
            have addr:∃ b' o',(if m=l then (⟨b,o,none⟩:Addr) else (⟨b,o,none⟩:Addr).add (l * sz)) = ⟨b',o',none⟩:=by
              split
              · exact ⟨_,_,rfl⟩
              · by_cases hz:l * sz=0
                · exact ⟨b,o,by simp [Addr.add,hz]⟩
                · exact ⟨b,o + l * sz,by simp [Addr.add,hz]⟩
            split at h
            · rename_i hlh'
              have:l=h':=Nat.eq_of_beq_eq_true hlh'
              subst this
              simp at h; subst h
              have:=m2 rfl
              subst this
              refine ⟨rfl,_,hrun, .inl ⟨b,o,0,[],by simp,rfl,by simp,by simp [aaH.nil]⟩⟩
            · rename_i hlh'
              have:l=h':=Nat.eq_of_beq_eq_true hlh'
              subst this
              have pure_:∃ u,(Instr.slice t (.slice (some ⟨b,o,none⟩) len cap) vlo vhi vmx).run P w = .ok u w∧RepA g s w (.p (.sl [])) u:=by
                obtain ⟨b',o',e⟩:=addr
                exact ⟨_,hrun, .inl ⟨b',o',m - l,0,[],by rw [e]; simp,by simp,rfl,by simp,by simp [aaH.nil]⟩⟩
              split at h
              · simp at h; subst h
                have hm:=m1 rfl
                subst hm
                refine ⟨rfl,_,hrun,b,o,m, ?_,Nat.zero_le _,by simp, ?_⟩
                · simp [Addr.add]
                · obtain ⟨sz2,n2,xs2,cur2,lost2,fz2,e2,hv⟩:=hv
                  refine ⟨sz2,n2,xs2,cur2,lost2,fz2,e2,fun hl=>?_⟩
                  obtain ⟨h5,st,mm,h6,h7,h8,h9,h10⟩:=hv hl
                  exact ⟨h5,st,mm,h6,h7,by omega,h9,h10⟩
              · simp at h; subst h
                exact ⟨rfl,pure_⟩
            · rename_i hlh'
              have hne:l ≠ h':=Nat.ne_of_beq_eq_false hlh'
              simp at h; subst h
              have:=m2 rfl
              subst this
              have hml:¬ m=l:=by omega
              refine ⟨rfl,_,hrun,b,o + l * sz,m - l, ?_,Nat.le_refl _,fun _=>rfl, ?_⟩
              · rw [if_neg hml]
                by_cases hz:l * sz=0
                · simp [Addr.add,hz]
                · simp [Addr.add,hz]
              · obtain ⟨sz2,n2,xs2,cur2,lost2,fz2,e2,hv⟩:=hv
                refine ⟨sz2,n2,xs2,cur2,lost2,fz2,e2,fun hl=>?_⟩
                obtain ⟨h5,st,mm,h6,h7,h8,h9,h10⟩:=hv hl
                have esz:sz2=sz:=by
                  have:=(hs id).symm.trans e2
                  rw [hobj] at this
                  simp at this
                  exact this.1.symm
                subst esz
                refine ⟨h5,st,mm,h6, ?_,by omega,by simp,h10⟩
                rw [h7,Nat.add_mul]; omega
            · rename_i hlh'
              have hne:l ≠ h':=Nat.ne_of_beq_eq_false hlh'
              split at h
              · simp at h
              rename_i hch
              simp at h; subst h
              have:=m1 rfl
              subst this
              have hml:¬ m=l:=by omega
              refine ⟨rfl,_,hrun,b,o + l * sz,m - l, ?_,by omega, ?_, ?_⟩
              · rw [if_neg hml]
                by_cases hz:l * sz=0
                · simp [Addr.add,hz]
                · simp [Addr.add,hz]
              · intro hcc
                have h1':=hcd hcc
                rw [hcc] at hch
                have:h' = len:=by
                  have:Nat.beq h' len=true:=by simpa using hch
                  exact Nat.eq_of_beq_eq_true this
                omega
              · obtain ⟨sz2,n2,xs2,cur2,lost2,fz2,e2,hv⟩:=hv
                refine ⟨sz2,n2,xs2,cur2,lost2,fz2,e2,fun hl=>?_⟩
                obtain ⟨h5,st,mm,h6,h7,h8,h9,h10⟩:=hv hl
                have esz:sz2=sz:=by
                  have:=(hs id).symm.trans e2
                  rw [hobj] at this
                  simp at this
                  exact this.1.symm
                subst esz
                refine ⟨h5,st,mm,h6, ?_,by omega, ?_,h10⟩
                · rw [h7,Nat.add_mul]; omega
                · intro hcc
                  have:=h9 hcc
                  have e3:o + l * sz2 + (m - l) * sz2=o + m * sz2:=by
                    rw [Nat.add_assoc, ← Nat.add_mul,Nat.add_sub_cancel' (by omega)]
                  rw [e3]; exact this
          · simp at h
        · simp at h
      · simp at h
    · simp at h
  · simp at h
end
end Go.Proofs.YtdnbnpknpejpdaaGreatDoor.Sw
namespace Go.Proofs.YtdnbnpknpejpdaaGreatDoor.Sw
section
variable {P:Program} {g:Sg} {s:Sto} {w:World}
theorem ifOf_rep {x:AVal} {v:Value} {d:Option (Nat × AVal)} (hx:RepA g s w x v) (h:ifOf x=some d) :
    (d=none∧v = .nilIface) ∨ ∃ t y u,d=some (t,y)∧v = .iface t u∧RepA g s w y u:=by
  unfold ifOf at h
  split at h <;> simp at h <;> subst h
  · exact .inl ⟨rfl,hx⟩
  · obtain ⟨u,rfl,h1⟩:=hx
    exact .inr ⟨_,_,u,rfl,rfl,h1⟩
  · obtain ⟨u,rfl,h1⟩:=hx
    exact .inr ⟨_,_,u,rfl,rfl,h1⟩
theorem assert_run {x z:AVal} {v:Value} {xt as:Nat} {ok:Bool} (hx:RepA g s w x v) (h:aew P x as ok=some z) :
    ∃ u,(Instr.typeAssert v xt as ok).run P w = .ok u w∧RepA g s w z u:=by
  unfold aew at h
  split at h
  · rename_i d hd
    have hr:=ifOf_rep hx hd
    split at h
    · rename_i hf
      split at h
      · rename_i t y
        rcases hr with ⟨h0,_⟩ | ⟨t',y',u,e1,rfl,hy⟩
        · simp at h0
        · simp only [Option.some.injEq,Prod.mk.injEq] at e1
          obtain ⟨rfl,rfl⟩:=e1
          simp only [fitsD,fitsT] at hf
          split at hf
          · rename_i want hu
            split at hf
            · rename_i i hi
              split at hf <;> simp at hf
              rename_i hm
              have hi' : ifaceT P as=true:=by simp [ifaceT,hu]
              have hrun:∀ f:Value→Sem Value,True:=fun _=>trivial
              cases ok <;> simp [hi'] at h <;> subst h
              · exact ⟨_,by simp [Instr.typeAssert,aaa hu,aaR hi,hm],hx⟩
              · exact ⟨_,by simp [Instr.typeAssert,aaa hu,aaR hi,hm],ajX (vs:=[_,_]) ⟨_,_,rfl,hx,_,_,rfl,rfl,rfl⟩⟩
            · simp at hf
          · rename_i d' hni hu
            simp at hf
            have ht:t=as:=hf
            subst ht
            have hi' : ifaceT P t=false:=by
              unfold ifaceT
              rw [hu]
              split
              · rename_i m he; simp at he; exact (hni _ he).elim
              · rfl
            cases ok <;> simp [hi'] at h <;> subst h
            · refine ⟨u, ?_,hy⟩
              simp only [Instr.typeAssert,Sem.run_bind,aaa hu,Result.andThen_ok]
              cases d' <;> first | (exact absurd rfl (hni _)) | simp
            · refine ⟨.tuple #[u, .bool true], ?_,ajX (vs:=[_,_]) ⟨_,_,rfl,hy,_,_,rfl,rfl,rfl⟩⟩
              simp only [Instr.typeAssert,Sem.run_bind,aaa hu,Result.andThen_ok]
              cases d' <;> first | (exact absurd rfl (hni _)) | simp
          · simp at hf
      · simp at h
    · rename_i hf
      split at h
      · rename_i z' hz
        simp at h
        subst h
        obtain ⟨zv,hzr,hzo⟩:=abF (P:=P) (w:=w) hz
        have hzrep:=abv (I:=g.imm) (w:=w) hzo
        refine ⟨.tuple #[zv, .bool false], ?_,[_,_],rfl,_,_,rfl,hzrep,_,_,rfl,rfl,rfl⟩
        rcases hr with ⟨rfl,rfl⟩ | ⟨t',y',u,rfl,rfl,hy⟩
        · simp only [fitsD] at hf
          split at hf
          · rename_i d' hu
            simp only [Instr.typeAssert,Sem.run_bind,aaa hu,Result.andThen_ok]
            cases d' <;> simp [hzr]
          · simp at hf
        · simp only [fitsD,fitsT] at hf
          split at hf
          · rename_i want hu
            split at hf
            · rename_i i hi
              split at hf <;> simp at hf
              rename_i m hm
              simp [Instr.typeAssert,aaa hu,aaR hi,hm,hzr]
            · simp at hf
          · rename_i d' hni hu
            simp at hf
            have ht:¬ t' = as:=Nat.ne_of_beq_eq_false hf
            simp only [Instr.typeAssert,Sem.run_bind,aaa hu,Result.andThen_ok]
            cases d' <;> first | (exact absurd rfl (hni _)) | simp [ht,hzr]
          · simp at hf
      · simp at h
    · simp at h
  · simp at h
theorem min_go {k:IntKind}:∀ {l:List AVal} {vs:List Value} {a:Int} {z:AVal},RepAs g s w l vs→minmax.go false k a l=some z →
    ∃ u,(vs.foldlM Builtin.min2 (.int k a)).run P w = .ok u w∧RepA g s w z u
  | [],_,a,z,hr,h=>by
    simp [minmax.go] at h; subst h
    rw [hr]
    exact ⟨.int k a,rfl,rfl⟩
  | x :: l,_,a,z,hr,h=>by
    obtain ⟨v,vs,rfl,h1,h2⟩:=hr
    cases x with
    | p x=>cases x with
      | int k' b =>
        simp only [minmax.go] at h
        have e:v = .int k' b:=h1
        subst e
        obtain ⟨u,a1,a2⟩:=min_go h2 h
        exact ⟨u,by simp only [List.foldlM_cons,Sem.run_bind,Builtin.min2,Sem.run_pure,Result.andThen_ok]; exact a1,a2⟩
      | _=>simp [minmax.go] at h
    | _=>simp [minmax.go] at h
theorem max_go {k:IntKind}:∀ {l:List AVal} {vs:List Value} {a:Int} {z:AVal},RepAs g s w l vs→minmax.go true k a l=some z →
    ∃ u,(vs.foldlM Builtin.max2 (.int k a)).run P w = .ok u w∧RepA g s w z u
  | [],_,a,z,hr,h=>by
    simp [minmax.go] at h; subst h
    rw [hr]
    exact ⟨.int k a,rfl,rfl⟩
  | x :: l,_,a,z,hr,h=>by
    obtain ⟨v,vs,rfl,h1,h2⟩:=hr
    cases x with
    | p x=>cases x with
      | int k' b =>
        simp only [minmax.go] at h
        have e:v = .int k' b:=h1
        subst e
        obtain ⟨u,a1,a2⟩:=max_go h2 h
        exact ⟨u,by simp only [List.foldlM_cons,Sem.run_bind,Builtin.max2,Sem.run_pure,Result.andThen_ok]; exact a1,a2⟩
      | _=>simp [minmax.go] at h
    | _=>simp [minmax.go] at h
theorem min_run {l:List AVal} {vs:List Value} {z:AVal} {ts:Array TypeId} {t:TypeId} (hr:RepAs g s w l vs) (h:minmax false l=some z) :
    ∃ u,(Builtin.min_ ts t vs.toArray).run P w = .ok u w∧RepA g s w z u:=by
  cases l with
  | nil=>simp [minmax] at h
  | cons x l =>
    obtain ⟨v,vs,rfl,h1,h2⟩:=hr
    cases x with
    | p x=>cases x with
      | int k a =>
        simp only [minmax] at h
        have e:v = .int k a:=h1
        subst e
        exact min_go h2 h
      | _=>simp [minmax] at h
    | _=>simp [minmax] at h
theorem max_run {l:List AVal} {vs:List Value} {z:AVal} {ts:Array TypeId} {t:TypeId} (hr:RepAs g s w l vs) (h:minmax true l=some z) :
    ∃ u,(Builtin.max_ ts t vs.toArray).run P w = .ok u w∧RepA g s w z u:=by
  cases l with
  | nil=>simp [minmax] at h
  | cons x l =>
    obtain ⟨v,vs,rfl,h1,h2⟩:=hr
    cases x with
    | p x=>cases x with
      | int k a =>
        simp only [minmax] at h
        have e:v = .int k a:=h1
        subst e
        exact max_go h2 h
      | _=>simp [minmax] at h
    | _=>simp [minmax] at h
theorem abO {gg:Bool} {n:Nat} {x:AVal} {v:Value} {cs:List AVal} (hx:RepA g s w x v) (h:aa3 gg n x=some cs) :
    RepAs g s w cs v.cells.toList∧v.cells.size=n∧(∀ c ∈ v.cells.toList,isCell c=true)∧(gg=true → ∃ l,v = .agg l)∧(gg=false→isCell v=true):=by
  unfold aa3 at h
  split at h
  · split at h
    · split at h <;> simp at h
      rename_i hb
      subst h
      obtain ⟨vs,rfl,h1,h2⟩:=hx
      have:=Nat.eq_of_beq_eq_true hb
      refine ⟨by simpa [Value.cells] using aaU h1,by simp [Value.cells,RepPs.length h1,this],by simpa [Value.cells] using h2,fun _=>⟨_,rfl⟩,by simp⟩
    · split at h <;> simp at h
      rename_i hb
      subst h
      obtain ⟨vs,rfl,h1,h2⟩:=hx
      have:=Nat.eq_of_beq_eq_true hb
      refine ⟨by simpa [Value.cells] using h1,by simp [Value.cells,RepAs.length h1,this],by simpa [Value.cells] using h2,fun _=>⟨_,rfl⟩,by simp⟩
    · simp at h
  · have key:∀ {x:AVal} {v:Value},RepA g s w x v→isCell v=true→(match Nat.beq n 1 with | true=>some [x] | false=>none)=some cs →
        RepAs g s w cs v.cells.toList∧v.cells.size=n∧(∀ c ∈ v.cells.toList,isCell c=true)∧(false=true → ∃ l,v = .agg l)∧(false=false→isCell v=true):=by
      intro x v hx hc h
      split at h <;> simp at h
      rename_i hb
      subst h
      have:=Nat.eq_of_beq_eq_true hb
      subst this
      have hcv:v.cells = #[v]:=by cases v <;> first | rfl | (simp [isCell] at hc)
      rw [hcv]
      exact ⟨⟨v,[],rfl,hx,rfl⟩,rfl,by simp [hc],by simp,fun _=>hc⟩
    cases x with
    | p x =>
      cases x with
      | agg _=>simp at h
      | tup _=>simp at h
      | bool _=>have e:v=_:=hx; subst e; exact key (x:=.p (.bool _)) rfl rfl h
      | int _ _=>have e:v=_:=hx; subst e; exact key (x:=.p (.int _ _)) rfl rfl h
      | str _=>have hx':=hx; obtain ⟨_,rfl,_⟩:=hx'; exact key (x:=.p (.str _)) hx rfl h
      | nilp=>have e:v=_:=hx; subst e; exact key (x:=.p .nilp) rfl rfl h
      | nils=>have e:v=_:=hx; subst e; exact key (x:=.p .nils) rfl rfl h
      | nilm=>have e:v=_:=hx; subst e; exact key (x:=.p .nilm) rfl rfl h
      | nilf=>have e:v=_:=hx; subst e; exact key (x:=.p .nilf) rfl rfl h
      | nili=>have e:v=_:=hx; subst e; exact key (x:=.p .nili) rfl rfl h
      | iface _ _=>have hx':=hx; obtain ⟨_,rfl,_⟩:=hx'; exact key (x:=.p (.iface _ _)) hx rfl h
      | sl _=>have hx':=hx; rcases hx' with ⟨_,_,_,_,_,rfl,_⟩ | ⟨_,_,_,rfl⟩ <;> exact key (x:=.p (.sl _)) hx rfl h
      | ip _=>have hx':=hx; obtain ⟨_,_,_,rfl,_⟩:=hx'; exact key (x:=.p (.ip _)) hx rfl h
      | fn _ _=>have hx':=hx; obtain ⟨_,rfl,_⟩:=hx'; exact key (x:=.p (.fn _ _)) hx rfl h
    | agg _=>simp at h
    | tup _=>simp at h
    | own _ _=>simp at h
    | ownm _=>simp at h
    | junk=>simp at h
    | iface _ _=>have hx':=hx; obtain ⟨_,rfl,_⟩:=hx'; exact key (x:=.iface _ _) hx rfl h
    | cl _=>have hx':=hx; rcases hx' with ⟨_,_,_,_,rfl,_⟩ | ⟨_,_,rfl⟩ <;> exact key (x:=.cl _) hx rfl h
    | box _ _=>have hx':=hx; obtain ⟨_,_,rfl⟩:=hx'; exact key (x:=.box _ _) hx rfl h
    | arr _ _ _ _ _=>have hx':=hx; obtain ⟨_,_,_,rfl,_⟩:=hx'; exact key (x:=.arr _ _ _ _ _) hx rfl h
    | el _ _ _ _=>have hx':=hx; obtain ⟨_,_,rfl,_⟩:=hx'; exact key (x:=.el _ _ _ _) hx rfl h
    | fn _ _=>have hx':=hx; obtain ⟨_,rfl,_⟩:=hx'; exact key (x:=.fn _ _) hx rfl h
    | fnb _ _=>have hx':=hx; obtain ⟨_,rfl,_⟩:=hx'; exact key (x:=.fnb _ _) hx rfl h
    | rf k _=>have hx':=hx; obtain ⟨_,_,rfl⟩:=hx'; exact key (x:=.rf k _) hx (by cases k <;> rfl) h
theorem aek {cs new cs' : List AVal} {vs us:List Value} {off:Nat} (h1:RepAs g s w cs vs) (h2:RepAs g s w new us) (h:aaT cs off new=some cs') :
    off + us.length≤vs.length∧RepAs g s w cs' (vs.take off ++ us ++ vs.drop (off + us.length)):=by
  unfold aaT at h
  split at h <;> simp at h
  rename_i hb
  have:=Nat.le_of_ble_eq_true hb
  subst h
  have e1:=RepAs.length h1
  have e2:=RepAs.length h2
  refine ⟨by omega, ?_⟩
  rw [e2]
  simpa using ((h1.take off).append h2).append (h1.drop _)
theorem foldl_put (new:List Value):∀ (off:Nat) (cs:Array Value) (k:Nat),off + k + new.length≤cs.size →
    (new.zipIdx k).foldl (fun (cs:Array Value) (x:Value × Nat)=>cs.setIfInBounds (off + x.2) x.1) cs=(cs.toList.take (off + k) ++ new ++ cs.toList.drop (off + k + new.length)).toArray:=by
  induction new with
  | nil=>intro off cs k h; simp
  | cons v new ih =>
    intro off cs k h
    simp only [List.length_cons] at h
    simp only [List.zipIdx_cons,List.foldl_cons]
    rw [ih off _ (k + 1) (by simp; omega)]
    have hlt:off + k < cs.toList.length:=by simp; omega
    have l1:(cs.toList.take (off + k)).length=off + k:=by simp; omega
    have hs:cs.toList.set (off + k) v=cs.toList.take (off + k) ++ ([v] ++ cs.toList.drop (off + k + 1)):=by
      rw [List.set_eq_take_append_cons_drop,if_pos hlt]; rfl
    apply congrArg List.toArray
    rw [Array.toList_setIfInBounds,hs]
    have e1:(cs.toList.take (off + k) ++ ([v] ++ cs.toList.drop (off + k + 1))).take (off + (k + 1))=cs.toList.take (off + k) ++ [v]:=by
      rw [List.take_append,l1,List.take_of_length_le (by omega)]
      rw [show off + (k + 1) - (off + k)=1 by omega]
      simp
    have e2:(cs.toList.take (off + k) ++ ([v] ++ cs.toList.drop (off + k + 1))).drop (off + (k + 1) + new.length)=cs.toList.drop (off + k + (new.length + 1)):=by
      rw [List.drop_append,l1,List.drop_of_length_le (by omega)]
      rw [show off + (k + 1) + new.length - (off + k)=new.length + 1 by omega]
      simp
      congr 1
      omega
    rw [e1,e2]
    simp
end
end Go.Proofs.YtdnbnpknpejpdaaGreatDoor.Sw
namespace Go.Proofs.YtdnbnpknpejpdaaGreatDoor.Sw
section
variable {P:Program} {g:Sg} {s:Sto} {w:World}
theorem run_sizes:∀ (fs:List Field),(fs.all fun f=>(szT P f.type).isSome)=true →
    (fs.mapM fun f=>(do pure (f.offset, ← Go.sizeOf f.type):Sem (Nat × Nat))).run P w = .ok (fs.map fun f=>(f.offset,(szT P f.type).getD 0)) w
  | [],_=>rfl
  | f :: fs,h=>by
    simp only [List.all_cons,Bool.and_eq_true] at h
    obtain ⟨n,hn⟩:=Option.isSome_iff_exists.1 h.1
    have ih:=run_sizes fs h.2
    simp only [List.mapM_cons,Sem.run_bind,aaw hn,Result.andThen_ok,Sem.run_pure,ih,List.map_cons,hn,Option.getD_some]
theorem run_sizesA (fs:Array Field) (h:(fs.toList.all fun f=>(szT P f.type).isSome)=true) :
    (fs.mapM fun f=>(do pure (f.offset, ← Go.sizeOf f.type):Sem (Nat × Nat))).run P w = .ok (fs.map fun f=>(f.offset,(szT P f.type).getD 0)) w:=by
  rw [Array.mapM_eq_mapM_toList]
  simp only [Sem.run_map,run_sizes fs.toList h,Result.andThen_ok]
  congr 1
  apply Array.ext'
  simp
def afY (g:Sg) (s:Sto) (w:World):List (Nat × AVal)→List (Nat × Value)→Prop
  | [],l=>l = []
  | (i,x) :: r,l=>∃ v t,l=(i,v) :: t∧RepA g s w x v∧afY g s w r t
theorem put_fold {cs:Array Value} {v:Value} {off:Nat} (h:off + v.cells.size≤cs.size) :
    (v.cells.zipIdx.foldl (fun (cs:Array Value) (x:Value × Nat)=>cs.setIfInBounds (off + x.2) x.1) cs)=(cs.toList.take off ++ v.cells.toList ++ cs.toList.drop (off + v.cells.toList.length)).toArray:=by
  have:=foldl_put v.cells.toList off cs 0 (by simpa using h)
  rw [← Array.foldl_toList,Array.toList_zipIdx]
  simpa using this
theorem ap0 {fs:Array Field}:∀ {parts:List (Nat × AVal)} {vals:List (Nat × Value)} {cs cs' : List AVal} {vs:List Value},afY g s w parts vals→RepAs g s w cs vs →
    (∀ v ∈ vs,isCell v=true)→ac6 P fs cs parts=some cs' → ∃ vs',Instr.fill ((fs.map fun f=>(f.offset,(szT P f.type).getD 0))[·]?) vs.toArray vals=some vs'.toArray∧RepAs g s w cs' vs' ∧ (∀ v ∈ vs',isCell v=true)
  | [],vals,cs,cs',vs,hp,hr,hc,h=>by
    simp [ac6] at h; subst h
    have e:vals = []:=hp
    subst e
    exact ⟨vs,rfl,hr,hc⟩
  | (i,x) :: parts,vals,cs,cs',vs,hp,hr,hc,h=>by
    obtain ⟨v,t,rfl,hx,ht⟩:=hp
    simp only [ac6] at h
    split at h
    · rename_i f hf
      split at h
      · rename_i n gg hn hg
        split at h
        · rename_i new hnew
          split at h
          · rename_i cs2 hput
            obtain ⟨k1,k2,k3,_,_⟩:=abO hx hnew
            obtain ⟨k4,k5⟩:=aek hr k1 hput
            have hc2:∀ u ∈ vs.take f.offset ++ v.cells.toList ++ vs.drop (f.offset + v.cells.toList.length),isCell u=true:=by
              intro u hu
              simp only [List.mem_append] at hu
              rcases hu with (hu | hu) | hu
              · exact hc u (List.mem_of_mem_take hu)
              · exact k3 u hu
              · exact hc u (List.mem_of_mem_drop hu)
            obtain ⟨vs',h1,h2,h3⟩:=ap0 ht k5 hc2 h
            refine ⟨vs', ?_,h2,h3⟩
            have hsz:v.cells.toList.length=n:=by simpa using k2
            simp only [Instr.fill,Array.getElem?_map,hf,Option.map_some,hn,Option.getD_some]
            have hno:¬ ((decide (v.cells.size ≠ n) || decide (f.offset + v.cells.size > vs.toArray.size))=true):=by
              have:v.cells.size=n:=k2
              simp at k4
              simp [this]; omega
            rw [if_neg hno,put_fold (by simp at k4; simpa using k4)]
            simp only [Array.getElem?_map] at h1
            exact h1
          · simp at h
        · simp at h
      · simp at h
    · simp at h
theorem fill_row {gg:Bool} {n:Nat}:∀ {parts:List (Nat × AVal)} {vals:List (Nat × Value)} {cs cs' : List AVal} {vs:List Value},afY g s w parts vals→RepAs g s w cs vs →
    (∀ v ∈ vs,isCell v=true)→ap1 gg n cs parts=some cs' → ∃ vs',Instr.fill (fun i=>some (i * n,n)) vs.toArray vals=some vs'.toArray∧RepAs g s w cs' vs' ∧ (∀ v ∈ vs',isCell v=true)
  | [],vals,cs,cs',vs,hp,hr,hc,h=>by
    simp [ap1] at h; subst h
    have e:vals = []:=hp
    subst e
    exact ⟨vs,rfl,hr,hc⟩
  | (i,x) :: parts,vals,cs,cs',vs,hp,hr,hc,h=>by
    obtain ⟨v,t,rfl,hx,ht⟩:=hp
    simp only [ap1] at h
    split at h
    · rename_i new hnew
      split at h
      · rename_i cs2 hput
        obtain ⟨k1,k2,k3,_,_⟩:=abO hx hnew
        obtain ⟨k4,k5⟩:=aek hr k1 hput
        have hc2:∀ u ∈ vs.take (i * n) ++ v.cells.toList ++ vs.drop (i * n + v.cells.toList.length),isCell u=true:=by
          intro u hu
          simp only [List.mem_append] at hu
          rcases hu with (hu | hu) | hu
          · exact hc u (List.mem_of_mem_take hu)
          · exact k3 u hu
          · exact hc u (List.mem_of_mem_drop hu)
        obtain ⟨vs',h1,h2,h3⟩:=fill_row ht k5 hc2 h
        refine ⟨vs', ?_,h2,h3⟩
        simp only [Instr.fill]
        have hno:¬ ((decide (v.cells.size ≠ n) || decide (i * n + v.cells.size > vs.toArray.size))=true):=by
          have:v.cells.size=n:=k2
          simp at k4
          simp [this]; omega
        rw [if_neg hno,put_fold (by simp at k4; simpa using k4)]
        exact h1
      · simp at h
    · simp at h
theorem build_run {t:Nat} {parts:List (Nat × AVal)} {vals:List (Nat × Value)} {z:AVal} (hp:afY g s w parts vals) (h:alU P t parts=some z) :
    ∃ u,(Instr.build t vals.toArray).run P w = .ok u w∧RepA g s w z u:=by
  unfold alU at h
  split at h
  · rename_i zs hz
    obtain ⟨zv,hzr,hzo⟩:=abF (P:=P) (w:=w) hz
    obtain ⟨us,rfl,hzs,hzc⟩:=abv (I:=g.imm) (w:=w) hzo
    split at h
    · rename_i fs hu
      split at h
      · rename_i hall
        simp only [Option.map_eq_some_iff] at h
        obtain ⟨cs',h1,rfl⟩:=h
        obtain ⟨vs',k1,k2,k3⟩:=ap0 hp (aaU (s:=s) hzs) hzc h1
        refine ⟨.agg vs'.toArray, ?_,ajY k2 k3⟩
        simp only [Instr.build,Sem.run_bind,hzr,Result.andThen_ok,aaa hu,run_sizesA fs hall,Value.cells,k1,Sem.run_pure]
      · simp at h
    · rename_i len e hu
      split at h
      · rename_i n gg hn hg
        simp only [Option.map_eq_some_iff] at h
        obtain ⟨cs',h1,rfl⟩:=h
        obtain ⟨vs',k1,k2,k3⟩:=fill_row hp (aaU (s:=s) hzs) hzc h1
        refine ⟨.agg vs'.toArray, ?_,ajY k2 k3⟩
        simp only [Instr.build,Sem.run_bind,hzr,Result.andThen_ok,aaa hu,aaw hn,Value.cells,k1,Sem.run_pure]
      · simp at h
    · simp at h
  · simp at h
theorem alw {t:Nat} {x:AVal} {v:Value} (hx:RepA g s w x v) (hi:ifaceT P t=false) (hd:(P.underlying t).isSome=true) :
    (Instr.makeInterface t v).run P w = .ok (.iface t v) w∧RepA g s w (mkIface t x) (.iface t v):=by
  refine ⟨?_,mkIface_rep hx⟩
  obtain ⟨d,hd⟩:=Option.isSome_iff_exists.1 hd
  simp only [ifaceT,hd] at hi
  simp only [Instr.makeInterface,Sem.run_bind,aaa hd,Result.andThen_ok]
  cases d <;> first | (simp at hi; done) | rfl
end
end Go.Proofs.YtdnbnpknpejpdaaGreatDoor.Sw
namespace Go.Proofs.YtdnbnpknpejpdaaGreatDoor.Sw
open Go.RowKit
def upd (s:Sto) (id:Nat) (o:Obj):Sto:=fun i=>if i=id then some o else s i
theorem upd_ho {s:Sto} {id i:Nat} {o:Obj} {h:HObj} (hh:upd s id o i=some (.ho h)) (hn:∀ h,o ≠ .ho h):s i=some (.ho h):=by
  unfold upd at hh
  split at hh
  · simp at hh; exact absurd hh (hn h)
  · exact hh
@[simp] theorem aaJ (s:Sto) (id:Nat) (o:Obj):upd s id o id=some o:=by simp [upd]
theorem aak (s:Sto) {id i:Nat} (o:Obj) (h:i ≠ id):upd s id o i=s i:=by simp [upd,h]
theorem aaD {sz:Nat}:∀ {vs:List Value},(∀ x ∈ vs,x.cells.size=sz)→(vs.flatMap (·.cells.toList)).length=vs.length * sz
  | [],_=>by simp
  | v :: vs,h=>by
    have hv:=h v (by simp)
    have ih:=aaD (vs:=vs) (fun x hx=>h x (by simp [hx]))
    simp only [List.flatMap_cons,List.length_append,ih,List.length_cons,Nat.add_mul]
    simp [hv]; omega
section
variable {g g' : Sg} {s s' : Sto} {w:World}
theorem aay (w:World) (o:Go.Obj) {b:Nat} (h:b < w.heap.size):(w.alloc o).heap[b]? = w.heap[b]? := Below.heap_alloc w o b h
theorem heap_alloc_new (w:World) (o:Go.Obj):(w.alloc o).heap[w.heap.size]? = some o:=by
  show (w.heap.push o)[w.heap.size]? = some o
  simp
theorem bsize_alloc (w:World) (o:Go.Obj) {b:Nat} (h:b < w.heap.size):World.bsize (w.alloc o) b=World.bsize w b:=by
  unfold World.bsize; rw [aay w o h]
theorem aa4 {w:World} {b o:Nat} {c:Array Value} {t:TypeId} {f:Nat × Nat} (h:w.heap[b]? = some (.cells c t f)):w.cell? ⟨b,o,none⟩=c[o]? := by
  simp [World.cell?,h]
theorem Ext.alloc (hi:Inv g s w) (o:Go.Obj) (hs:∀ id x,s id=some x→s' id=some x) (himm:∀ b o,g.imm b o→g'.imm b o) (hbx:∀ id b,g.bx id=some b→g'.bx id=some b)
    (hrg:∀ b r,g.rg b=some r→g'.rg b=some r) (hcb:∀ id x,s id=some x→g'.cb id=g.cb id) (hb:g'.base=g.base)
    (hib:∀ b o,b < g.base→g'.imm b o→g.imm b o) (hpr:g'.pr=g.pr) (hip:∀ b o,g.pr b→g'.imm b o→g.imm b o):Ext g s w g' s' (w.alloc o) where
  keeps:=fun b o' c h hc=>⟨himm b o' h,by rw [World.cell?_alloc_lt w _ _ (hi.immS b o' h)]; exact hc⟩
  bx:=hbx
  view:=by
    rintro id ep off len capd b o' cap ⟨sz,n,xs,cur,lost,fz,h1,h2⟩
    refine ⟨sz,n,xs,cur,lost,fz,hs _ _ h1,fun hl=>?_⟩
    obtain ⟨h3,st,m,h4,h5,h6,h7,h8⟩:=h2 hl
    refine ⟨h3,st,m,hrg _ _ h4,h5,h6,fun hc=>?_,fun hc=>by rw [hcb _ _ h1]; exact h8 hc⟩
    rw [bsize_alloc _ _ (hi.rgS _ _ _ _ h4).2.2]
    exact h7 hc
  el:=by
    rintro id ep i off b o' ⟨sz,n,xs,cur,lost,fz,h1,h2⟩
    refine ⟨sz,n,xs,cur,lost,fz,hs _ _ h1,fun hl=>?_⟩
    obtain ⟨h3,st,m,h4,h5,h6,h7⟩:=h2 hl
    exact ⟨h3,st,m,hrg _ _ h4,h5,h6,fun hc=>by rw [hcb _ _ h1]; exact h7 hc⟩
  base:=hb
  below:=(Below.refl _ _).alloc hi.baseS o
  immB:=hib
  still:=⟨hpr,fun b hb=>⟨aay w o (hi.prS b hb).1,fun o' ho=>hip b o' hb ho⟩⟩
theorem Ext.drew (g:Sg) (s:Sto) (w:World):Ext g s w g s w.drew where
  keeps:=fun _ _ _ h hc=>⟨h,hc⟩
  bx:=fun _ _ h=>h
  view:=fun _ _ _ _ _ _ _ _ h=>h
  el:=fun _ _ _ _ _ _ h=>h
  base:=rfl
  below:=(Below.refl _ _).drew
  immB:=fun _ _ _ h=>h
  still:=⟨rfl,fun _ _=>⟨rfl,fun _ h=>h⟩⟩
theorem Inv.drew (hi:Inv g s w):Inv g s w.drew:=by
  have e:=Ext.drew g s w
  refine ⟨?_, ?_,hi.rgS,hi.bxS,hi.inj,hi.immS,hi.baseS,ad2 hi.ho e (fun _ _ h=>h) (fun _ _ _ _=>rfl),hi.prS⟩
  · intro id cs h
    obtain ⟨b,c,t,h1,h2,h3,h4⟩:=hi.box id cs h
    exact ⟨b,c,t,h1,h2,RepAs.ext e _ _ h3,h4⟩
  · intro id sz n xs cur lost fz h
    obtain ⟨h1,h2,h3,h4⟩:=hi.arr id sz n xs cur lost fz h
    refine ⟨h1,h2,h3,fun b st m hb=>?_⟩
    obtain ⟨h5,c,t,vs,h6,h7,h8⟩:=h4 b st m hb
    exact ⟨h5,c,t,vs,h6,RepAs.ext e _ _ h7,h8⟩
theorem new_box (hi:Inv g s w) {id:Nat} (hid:s id=none) {cs:List AVal} {c:Array Value} {t:TypeId} (hr:RepAs g s w cs c.toList) (hc:∀ x ∈ c.toList,isCell x=true) :
    ∃ g',Ext g s w g' (upd s id (.box cs)) (w.alloc (.cells c t))∧Inv g' (upd s id (.box cs)) (w.alloc (.cells c t)) ∧
      RepA g' (upd s id (.box cs)) (w.alloc (.cells c t)) (.box id 0) (.pointer (some ⟨w.heap.size,0,none⟩)):=by
  have hbn:g.bx id=none:=by
    cases hb:g.bx id with
    | none=>rfl
    | some b =>
      rcases (hi.bxS id b hb).2.2.2.2 with ⟨cs,h⟩ | ⟨es,h⟩ <;> rw [hid] at h <;> simp at h
  let g' : Sg:={ g with bx:=fun i=>if i=id then some w.heap.size else g.bx i }
  have hs:∀ i x,s i=some x→upd s id (.box cs) i=some x:=fun i x h=>by
    rw [aak _ _ (fun e=>by subst e; rw [hid] at h; simp at h)]; exact h
  have hbx:∀ i b,g.bx i=some b→g'.bx i=some b:=fun i b h=>by
    have:i ≠ id:=fun e=>by subst e; rw [hbn] at h; simp at h
    simp [g',this,h]
  have e:Ext g s w g' (upd s id (.box cs)) (w.alloc (.cells c t)):=Ext.alloc hi _ hs (fun _ _ h=>h) hbx (fun _ _ h=>h) (fun _ _ _=>rfl) rfl (fun _ _ _ h=>h) rfl (fun _ _ _ h=>h)
  refine ⟨g',e, ?_,⟨w.heap.size,by simp [g'],rfl⟩⟩
  refine ⟨?_, ?_, ?_, ?_, ?_, ?_, ?_,ad2 hi.ho e (fun i h hh=>upd_ho hh (by simp)) (fun i b' hb' _=>aay _ _ (hi.bxS _ _ hb').2.1),hi.prS.step (by simp) rfl (fun _ _=>.inr rfl) (fun i b hpb hb=>by
      simp only [g'] at hb
      split at hb
      · simp at hb; have:=(hi.prS b hpb).1; omega
      · exact ⟨_,hb⟩)⟩
  · intro i cs' h
    by_cases hii:i=id
    · subst hii
      simp at h; subst h
      exact ⟨w.heap.size,c,t,by simp [g'],heap_alloc_new w _,RepAs.ext e _ _ hr,hc⟩
    · rw [aak _ _ hii] at h
      obtain ⟨b,c',t',h1,h2,h3,h4⟩:=hi.box i cs' h
      exact ⟨b,c',t',hbx _ _ h1,by rw [aay _ _ (hi.bxS _ _ h1).2.1]; exact h2,RepAs.ext e _ _ h3,h4⟩
  · intro i sz n xs cur lost fz h
    have hii:i ≠ id:=fun e=>by subst e; simp at h
    rw [aak _ _ hii] at h
    obtain ⟨h1,h2,h3,h4⟩:=hi.arr i sz n xs cur lost fz h
    refine ⟨h1,h2,h3,fun b st m hb=>?_⟩
    obtain ⟨h5,c',t',vs,h6,h7,h8⟩:=h4 b st m hb
    exact ⟨h5,c',t',vs,by rw [aay _ _ (hi.rgS _ _ _ _ hb).2.2]; exact h6,RepAs.ext e _ _ h7,h8⟩
  · intro b i st m hb
    obtain ⟨⟨sz,n,xs,cur,lost,fz,h1⟩,h2,h3⟩:=hi.rgS b i st m hb
    exact ⟨⟨sz,n,xs,cur,lost,fz,hs _ _ h1⟩,h2,by simp; omega⟩
  · intro i b hb
    by_cases hii:i=id
    · subst hii
      simp [g'] at hb
      subst hb
      refine ⟨hi.baseS,by simp, ?_,fun o ho=>?_, .inl ⟨cs,by simp⟩⟩
      · cases hr' : g.rg w.heap.size with
        | none=>rfl
        | some r=>obtain ⟨a,b,c⟩:=r; have:=(hi.rgS _ _ _ _ hr').2.2; omega
      · have:=hi.immS _ _ ho; omega
    · simp [g',hii] at hb
      obtain ⟨h1,h2,h3,h4,h5⟩:=hi.bxS i b hb
      refine ⟨h1,by simp; omega,h3,h4, ?_⟩
      rcases h5 with ⟨cs',h5⟩ | ⟨es,h5⟩
      · exact .inl ⟨cs',hs _ _ h5⟩
      · exact .inr ⟨es,hs _ _ h5⟩
  · intro i j b h1 h2
    by_cases hii:i=id
    · subst hii
      by_cases hjj:j=i
      · exact hjj.symm
      · simp [g',hjj] at h1 h2
        subst h1
        have:=(hi.bxS j _ h2).2.1; omega
    · by_cases hjj:j=id
      · subst hjj
        simp [g',hii] at h1 h2
        subst h2
        have:=(hi.bxS i _ h1).2.1; omega
      · simp [g',hii,hjj] at h1 h2
        exact hi.inj i j b h1 h2
  · intro b o h
    have:=hi.immS b o h
    simp; omega
  · simp; have:=hi.baseS; show g.base≤_; omega
theorem new_arr (hi:Inv g s w) {id:Nat} (hid:s id=none) {sz:Nat} {xs:List AVal} {vs:List Value} {rest:List Value} {t:TypeId} (hr:RepAs g s w xs vs)
    (hv:∀ v ∈ vs,v.cells.size=sz ∧ ∀ x ∈ v.cells.toList,isCell x=true) {cap:Nat} {capd:Bool} (hcap:xs.length≤cap) (hc:capd=true→cap=xs.length)
    (hroom:capd=false→cap * sz≤(vs.flatMap (·.cells.toList) ++ rest).length) :
    ∃ g',Ext g s w g' (upd s id (.arr sz xs.length xs 0 0 0)) (w.alloc (.cells (vs.flatMap (·.cells.toList) ++ rest).toArray t)) ∧
      Inv g' (upd s id (.arr sz xs.length xs 0 0 0)) (w.alloc (.cells (vs.flatMap (·.cells.toList) ++ rest).toArray t)) ∧
      RepA g' (upd s id (.arr sz xs.length xs 0 0 0)) (w.alloc (.cells (vs.flatMap (·.cells.toList) ++ rest).toArray t)) (.arr id 0 0 xs.length capd) (.slice (some ⟨w.heap.size,0,none⟩) xs.length cap):=by
  generalize ha:(vs.flatMap (·.cells.toList) ++ rest).toArray=arr
  have hrgn:g.rg w.heap.size=none:=by
    cases hr' : g.rg w.heap.size with
    | none=>rfl
    | some r=>obtain ⟨a,b,c⟩:=r; have:=(hi.rgS _ _ _ _ hr').2.2; omega
  let g' : Sg:={ g with rg:=fun b=>if b=w.heap.size then some (id,0,xs.length) else g.rg b,cb:=fun i=>if i=id then w.heap.size else g.cb i }
  have hs:∀ i x,s i=some x→upd s id (.arr sz xs.length xs 0 0 0) i=some x:=fun i x h=>by
    rw [aak _ _ (fun e=>by subst e; rw [hid] at h; simp at h)]; exact h
  have hrg:∀ b r,g.rg b=some r→g'.rg b=some r:=fun b r h=>by
    have:b ≠ w.heap.size:=fun e=>by subst e; rw [hrgn] at h; simp at h
    simp [g',this,h]
  have hcb:∀ i x,s i=some x→g'.cb i=g.cb i:=fun i x h=>by
    have:i ≠ id:=fun e=>by subst e; rw [hid] at h; simp at h
    simp [g',this]
  have e:Ext g s w g' (upd s id (.arr sz xs.length xs 0 0 0)) (w.alloc (.cells arr t)):=Ext.alloc hi _ hs (fun _ _ h=>h) (fun _ _ h=>h) hrg hcb rfl (fun _ _ _ h=>h) rfl (fun _ _ _ h=>h)
  refine ⟨g',e, ?_, ?_⟩
  · refine ⟨?_, ?_, ?_, ?_,hi.inj, ?_, ?_,ad2 hi.ho e (fun i h hh=>upd_ho hh (by simp)) (fun i b' hb' _=>aay _ _ (hi.bxS _ _ hb').2.1),hi.prS.step (by simp) rfl (fun b hpb=>.inr (if_neg (Nat.ne_of_lt (hi.prS b hpb).1))) (fun _ _ _ h=>⟨_,h⟩)⟩
    · intro i cs' h
      have hii:i ≠ id:=fun e=>by subst e; simp at h
      rw [aak _ _ hii] at h
      obtain ⟨b,c',t',h1,h2,h3,h4⟩:=hi.box i cs' h
      exact ⟨b,c',t',h1,by rw [aay _ _ (hi.bxS _ _ h1).2.1]; exact h2,RepAs.ext e _ _ h3,h4⟩
    · intro i sz' n xs' cur lost fz h
      by_cases hii:i=id
      · subst hii
        simp at h
        obtain ⟨rfl,rfl,rfl,rfl,rfl,rfl⟩:=h
        refine ⟨rfl,Nat.le_refl _,by omega,fun b st m hb=>?_⟩
        by_cases hbb:b=w.heap.size
        · subst hbb
          simp [g'] at hb
          obtain ⟨rfl,rfl⟩:=hb
          refine ⟨Nat.le_refl _,arr,t,vs,heap_alloc_new w _, ?_,hv,fun i x hx=>?_,fun o ho=>?_, ?_⟩
          · rw [List.take_length]; exact RepAs.ext e _ _ hr
          · rw [← ha]
            have hlt:=(List.getElem?_eq_some_iff.1 hx).1
            simp only [Nat.zero_add,List.getElem?_toArray]
            rw [List.getElem?_append_left hlt]; exact hx
          · have:=hi.immS _ _ ho; omega
          · rw [← ha]
            have:=aaD (sz:=sz) (fun v hv'=>(hv v hv').1)
            simp [this,RepAs.length hr]
        · simp [g',hbb] at hb
          obtain ⟨⟨_,_,_,_,_,_,h⟩,_,_⟩:=hi.rgS _ _ _ _ hb
          rw [hid] at h; simp at h
      · rw [aak _ _ hii] at h
        obtain ⟨h1,h2,h3,h4⟩:=hi.arr i sz' n xs' cur lost fz h
        refine ⟨h1,h2,h3,fun b st m hb=>?_⟩
        have hbb:b ≠ w.heap.size:=fun e=>by subst e; simp [g'] at hb; exact hii hb.1.symm
        simp [g',hbb] at hb
        obtain ⟨h5,c',t',vs',h6,h7,h8⟩:=h4 b st m hb
        exact ⟨h5,c',t',vs',by rw [aay _ _ (hi.rgS _ _ _ _ hb).2.2]; exact h6,RepAs.ext e _ _ h7,h8⟩
    · intro b i st m hb
      by_cases hbb:b=w.heap.size
      · subst hbb
        simp [g'] at hb
        obtain ⟨rfl,rfl,rfl⟩:=hb
        exact ⟨⟨_,_,_,_,_,_,aaJ _ _ _⟩,hi.baseS,by simp⟩
      · simp [g',hbb] at hb
        obtain ⟨⟨sz',n,xs',cur,lost,fz,h1⟩,h2,h3⟩:=hi.rgS b i st m hb
        exact ⟨⟨sz',n,xs',cur,lost,fz,hs _ _ h1⟩,h2,by simp; omega⟩
    · intro i b hb
      obtain ⟨h1,h2,h3,h4,h5⟩:=hi.bxS i b hb
      refine ⟨h1,by simp; omega, ?_,h4, ?_⟩
      · have:b ≠ w.heap.size:=by omega
        simp [g',this,h3]
      · rcases h5 with ⟨cs',h5⟩ | ⟨es,h5⟩
        · exact .inl ⟨cs',hs _ _ h5⟩
        · exact .inr ⟨es,hs _ _ h5⟩
    · intro b o h
      have:=hi.immS b o h
      simp; omega
    · simp; have:=hi.baseS; show g.base≤_; omega
  · refine ⟨w.heap.size,0,cap,rfl,hcap,hc,sz,xs.length,xs,0,0,0,aaJ _ _ _,fun _=>⟨Nat.le_refl _,0,xs.length,by simp [g'],by simp,by simp,fun hcd=>?_,fun _=>by simp [g']⟩⟩
    have:=hroom hcd
    unfold World.bsize
    rw [heap_alloc_new]
    simp only [← ha]
    simpa using this
end
end Go.Proofs.YtdnbnpknpejpdaaGreatDoor.Sw
namespace Go.Proofs.YtdnbnpknpejpdaaGreatDoor.Sw
open Go.RowKit
theorem apu (v:Value):isCell v=v.oneCell':=by cases v <;> rfl
def splice {α:Type} (l:List α) (p:Nat) (us:List α):List α:=l.take p ++ us ++ l.drop (p + us.length)
theorem aeV {α:Type} {l us:List α} {p:Nat} (h:p + us.length≤l.length) (j:Nat) :
    (splice l p us)[j]? = if j < p then l[j]? else if j < p + us.length then us[j - p]? else l[j]? := by
  unfold splice
  have l1:(l.take p).length=p:=by simp; omega
  by_cases h1:j < p
  · rw [if_pos h1,List.append_assoc,List.getElem?_append_left (by omega),List.getElem?_take,if_pos h1]
  · rw [if_neg h1]
    by_cases h2:j < p + us.length
    · rw [if_pos h2,List.append_assoc,List.getElem?_append_right (by omega),l1,List.getElem?_append_left (by omega)]
    · rw [if_neg h2,List.getElem?_append_right (by simp; omega)]
      simp only [List.length_append,l1,List.getElem?_drop]
      congr 1
      omega
theorem abX {α:Type} {l us:List α} {p:Nat} (h:p + us.length≤l.length):(splice l p us).length=l.length:=by
  unfold splice; simp; omega
theorem splice_mid {α:Type} (A V B us:List α) (off:Nat) (h:off + us.length≤V.length):splice (A ++ V ++ B) (A.length + off) us=A ++ splice V off us ++ B:=by
  unfold splice
  rw [List.append_assoc A V B,List.take_append,List.take_of_length_le (by omega),show A.length + off - A.length=off by omega,List.take_append_of_le_length (by omega)]
  rw [show A.length + off + us.length=A.length + (off + us.length) by omega,List.drop_append,List.drop_of_length_le (l:=A) (by omega)]
  rw [show A.length + (off + us.length) - A.length=off + us.length by omega,List.drop_append_of_le_length h]
  simp
theorem splice_within {α:Type} {l c us:List α} {st p:Nat} (hl:p + us.length≤l.length) (hc:st + p + us.length≤c.length)
    (h:∀ (j:Nat) (x:α),l[j]? = some x→c[st + j]? = some x):∀ (j:Nat) (x:α),(splice l p us)[j]? = some x→(splice c (st + p) us)[st + j]? = some x:=by
  intro j x hj
  rw [aeV hl] at hj
  rw [aeV hc]
  split at hj
  · rw [if_pos (by omega)]; exact h j x hj
  · rw [if_neg (by omega)]
    split at hj
    · rw [if_pos (by omega)]
      rw [show st + j - (st + p)=j - p by omega]; exact hj
    · rw [if_neg (by omega)]; exact h j x hj
theorem aei {w:World} {g:Nat} {old cs:Array Value} {t:TypeId} {fr:Nat × Nat} (hg:w.heap[g]? = some (.cells old t fr)) (hs:cs.size=old.size) (b:Nat) :
    World.bsize (w.setRow g cs) b=World.bsize w b:=by
  unfold World.bsize
  by_cases h:b=g
  · subst h; rw [setRow_heap w b old cs t fr hg,hg]; exact hs
  · rw [setRow_other w g b cs h]
theorem cell_setRow {w:World} {g o:Nat} {old cs:Array Value} {t:TypeId} {fr:Nat × Nat} (hg:w.heap[g]? = some (.cells old t fr)):(w.setRow g cs).cell? ⟨g,o,none⟩=cs[o]? :=
  aa4 (setRow_heap w g old cs t fr hg)
theorem aib {w:World} {g b o:Nat} {cs:Array Value} (h:b ≠ g):(w.setRow g cs).cell? ⟨b,o,none⟩=w.cell? ⟨b,o,none⟩ :=
  World.cell?_of_block (setRow_other w g b cs h)
theorem Below.setRow {B:Nat} {w:World} {g:Nat} {cs:Array Value} (h:B≤g):Below B w (w.setRow g cs) :=
  ⟨rfl,rfl,rfl,by simp,fun k hk=>setRow_other w g k cs (by omega)⟩
theorem ajp {α:Type}:∀ (l:List α) (n:Nat) (x:α),setNth l n x=if n < l.length then some (l.set n x) else none
  | [],n,x=>by simp [setNth]
  | y :: l,0,x=>by simp [setNth]
  | y :: l,n + 1,x=>by
    simp only [setNth,ajp l n x,List.length_cons,List.set_cons_succ]
    by_cases h:n < l.length
    · simp [h]
    · simp [h]
theorem RepAs.set {g:Sg} {s:Sto} {w:World}:∀ {xs:List AVal} {vs:List Value} {n:Nat} {x:AVal} {v:Value},RepAs g s w xs vs→RepA g s w x v→RepAs g s w (xs.set n x) (vs.set n v)
  | [],_,_,_,_,h,_=>by rw [h]; simp [RepAs]
  | y :: xs,_,0,x,v,h,hx=>by
    obtain ⟨u,us,rfl,a,b⟩:=h
    exact ⟨v,us,rfl,hx,b⟩
  | y :: xs,_,n + 1,x,v,h,hx=>by
    obtain ⟨u,us,rfl,a,b⟩:=h
    exact ⟨u,us.set n v,rfl,a,RepAs.set b hx⟩
section
variable {g:Sg} {s:Sto} {w:World}
theorem store_box (hi:Inv g s w) {id off:Nat} {cs new cs' : List AVal} (hid:s id=some (.box cs)) {us:List Value} (hr:RepAs g s w new us) (hc:∀ x ∈ us,isCell x=true)
    (hp:aaT cs off new=some cs') :
    ∃ b c t,g.bx id=some b∧w.heap[b]? = some (.cells c t (0,0))∧off + us.length≤c.size ∧
      Ext g s w g (upd s id (.box cs')) (w.setRow b (splice c.toList off us).toArray)∧Inv g (upd s id (.box cs')) (w.setRow b (splice c.toList off us).toArray):=by
  obtain ⟨b,c,t,hb,hblk,hrep,hcell⟩:=hi.box id cs hid
  obtain ⟨hle,hrep'⟩:=aek hrep hr hp
  have hle' : off + us.length≤c.toList.length:=hle
  refine ⟨b,c,t,hb,hblk,by simpa using hle, ?_⟩
  obtain ⟨hbb,hbs,hrgn,himm,_⟩:=hi.bxS id b hb
  have hsize:(splice c.toList off us).toArray.size=c.size:=by simp [abX hle']
  have hs:∀ i sz n xs cur lost fz,s i=some (.arr sz n xs cur lost fz) ↔ upd s id (.box cs') i=some (.arr sz n xs cur lost fz):=by
    intro i sz n xs cur lost fz
    by_cases h:i=id
    · subst h; simp [hid]
    · rw [aak _ _ h]
  have e:Ext g s w g (upd s id (.box cs')) (w.setRow b (splice c.toList off us).toArray):=by
    refine ⟨?_,fun _ _ h=>h, ?_, ?_,rfl,Below.setRow hbb,fun _ _ _ h=>h,rfl,fun k hk=>⟨setRow_other _ _ _ _ (fun e=>(hi.prS k hk).2.2 id (e ▸ hb)),fun _ h=>h⟩⟩
    · intro b' o' x h hx
      have:b' ≠ b:=fun e=>by subst e; exact himm _ h
      exact ⟨h,by rw [aib this]; exact hx⟩
    · rintro i ep off' len capd b' o' cap ⟨sz,n,xs,cur,lost,fz,h1,h2⟩
      refine ⟨sz,n,xs,cur,lost,fz,(hs ..).1 h1,fun hl=>?_⟩
      obtain ⟨h3,st,m,h4,h5,h6,h7,h8⟩:=h2 hl
      exact ⟨h3,st,m,h4,h5,h6,fun hcd=>by rw [aei hblk hsize]; exact h7 hcd,h8⟩
    · rintro i ep j off' b' o' ⟨sz,n,xs,cur,lost,fz,h1,h2⟩
      exact ⟨sz,n,xs,cur,lost,fz,(hs ..).1 h1,h2⟩
  refine ⟨e, ?_, ?_, ?_, ?_,hi.inj,fun b' o' h=>by simpa using hi.immS b' o' h,by simpa using hi.baseS,
    ad2 hi.ho e (fun i h hh=>upd_ho hh (by simp)) (fun i b' hb' hh=>setRow_other _ _ _ _ (fun e=>by subst e; have:=hi.inj _ _ _ hb' hb; subst this; obtain ⟨_,hh⟩:=hh; rw [hid] at hh; simp at hh)),by simpa using hi.prS⟩
  · intro i ds h
    by_cases hii:i=id
    · subst hii
      simp at h; subst h
      refine ⟨b,_,t,hb,setRow_heap w b c _ t _ hblk,by simpa [splice] using RepAs.ext e _ _ hrep', ?_⟩
      intro x hx
      have hx' : x ∈ splice c.toList off us:=by simpa using hx
      unfold splice at hx'
      simp only [List.mem_append] at hx'
      rcases hx' with (hx' | hx') | hx'
      · exact hcell x (List.mem_of_mem_take hx')
      · exact hc x hx'
      · exact hcell x (List.mem_of_mem_drop hx')
    · rw [aak _ _ hii] at h
      obtain ⟨b2,c2,t2,h1,h2,h3,h4⟩:=hi.box i ds h
      have:b2 ≠ b:=fun e=>by subst e; exact hii (hi.inj _ _ _ h1 hb)
      exact ⟨b2,c2,t2,h1,by rw [setRow_other _ _ _ _ this]; exact h2,RepAs.ext e _ _ h3,h4⟩
  · intro i sz n xs cur lost fz h
    obtain ⟨h1,h2,h3,h4⟩:=hi.arr i sz n xs cur lost fz ((hs ..).2 h)
    refine ⟨h1,h2,h3,fun b2 st m hb2=>?_⟩
    have:b2 ≠ b:=fun e=>by subst e; rw [hrgn] at hb2; simp at hb2
    obtain ⟨h5,c2,t2,vs,h6,h7,h8⟩:=h4 b2 st m hb2
    exact ⟨h5,c2,t2,vs,by rw [setRow_other _ _ _ _ this]; exact h6,RepAs.ext e _ _ h7,h8⟩
  · intro b2 i st m h
    obtain ⟨⟨sz,n,xs,cur,lost,fz,h1⟩,h2,h3⟩:=hi.rgS b2 i st m h
    exact ⟨⟨sz,n,xs,cur,lost,fz,(hs ..).1 h1⟩,h2,by simpa using h3⟩
  · intro i b2 h
    obtain ⟨h1,h2,h3,h4,h5⟩:=hi.bxS i b2 h
    refine ⟨h1,by simpa using h2,h3,h4, ?_⟩
    by_cases hii:i=id
    · subst hii; exact .inl ⟨cs',by simp⟩
    · rw [aak _ _ hii]; exact h5
theorem cells_of {x:AVal} {v:Value} (hx:RepA g s w x v) (hj:x ≠ .junk):RepAs g s w (cells x) v.cells.toList:=by
  have one:∀ {x:AVal} {v:Value},RepA g s w x v→v.cells = #[v]→RepAs g s w [x] v.cells.toList:=by
    intro x v hx hv
    rw [hv]
    exact ⟨v,[],rfl,hx,rfl⟩
  cases x with
  | junk=>exact absurd rfl hj
  | p x =>
    cases x with
    | agg _=>obtain ⟨vs,rfl,h1,_⟩:=hx; simpa [cells,Value.cells] using aaU h1
    | bool _=>have e:v=_:=hx; subst e; exact one (x:=.p (.bool _)) rfl rfl
    | int _ _=>have e:v=_:=hx; subst e; exact one (x:=.p (.int _ _)) rfl rfl
    | str _=>have hx':=hx; obtain ⟨_,rfl,_⟩:=hx'; exact one (x:=.p (.str _)) hx rfl
    | nilp=>have e:v=_:=hx; subst e; exact one (x:=.p .nilp) rfl rfl
    | nils=>have e:v=_:=hx; subst e; exact one (x:=.p .nils) rfl rfl
    | nilm=>have e:v=_:=hx; subst e; exact one (x:=.p .nilm) rfl rfl
    | nilf=>have e:v=_:=hx; subst e; exact one (x:=.p .nilf) rfl rfl
    | nili=>have e:v=_:=hx; subst e; exact one (x:=.p .nili) rfl rfl
    | tup _=>have hx':=hx; obtain ⟨_,rfl,_⟩:=hx'; exact one (x:=.p (.tup _)) hx rfl
    | iface _ _=>have hx':=hx; obtain ⟨_,rfl,_⟩:=hx'; exact one (x:=.p (.iface _ _)) hx rfl
    | sl _=>have hx':=hx; rcases hx' with ⟨_,_,_,_,_,rfl,_⟩ | ⟨_,_,_,rfl⟩ <;> exact one (x:=.p (.sl _)) hx rfl
    | ip _=>have hx':=hx; obtain ⟨_,_,_,rfl,_⟩:=hx'; exact one (x:=.p (.ip _)) hx rfl
    | fn _ _=>have hx':=hx; obtain ⟨_,rfl,_⟩:=hx'; exact one (x:=.p (.fn _ _)) hx rfl
  | agg _=>obtain ⟨vs,rfl,h1,_⟩:=hx; simpa [cells,Value.cells] using h1
  | own _ _=>exact hx.elim
  | ownm _=>exact hx.elim
  | tup _=>have hx':=hx; obtain ⟨_,rfl,_⟩:=hx'; exact one (x:=.tup _) hx rfl
  | iface _ _=>have hx':=hx; obtain ⟨_,rfl,_⟩:=hx'; exact one (x:=.iface _ _) hx rfl
  | cl _=>have hx':=hx; rcases hx' with ⟨_,_,_,_,rfl,_⟩ | ⟨_,_,rfl⟩ <;> exact one (x:=.cl _) hx rfl
  | box _ _=>have hx':=hx; obtain ⟨_,_,rfl⟩:=hx'; exact one (x:=.box _ _) hx rfl
  | arr _ _ _ _ _=>have hx':=hx; obtain ⟨_,_,_,rfl,_⟩:=hx'; exact one (x:=.arr _ _ _ _ _) hx rfl
  | el _ _ _ _=>have hx':=hx; obtain ⟨_,_,rfl,_⟩:=hx'; exact one (x:=.el _ _ _ _) hx rfl
  | fn _ _=>have hx':=hx; obtain ⟨_,rfl,_⟩:=hx'; exact one (x:=.fn _ _) hx rfl
  | fnb _ _=>have hx':=hx; obtain ⟨_,rfl,_⟩:=hx'; exact one (x:=.fnb _ _) hx rfl
  | rf k _=>have hx':=hx; obtain ⟨_,_,rfl⟩:=hx'; exact one (x:=.rf k _) hx (by cases k <;> rfl)
theorem reform_rep {x:AVal} {v:Value} {cs:List AVal} {us:List Value} (hx:RepA g s w x v) (hj:x ≠ .junk) (hv:∀ c ∈ v.cells.toList,isCell c=true)
    (hr:RepAs g s w cs us) (hc:∀ c ∈ us,isCell c=true) (hl:us.length=v.cells.size) :
    ∃ u,RepA g s w (reform x cs) u∧u.cells.toList=us:=by
  have ag:RepA g s w (mkAgg cs) (.agg us.toArray)∧(Value.agg us.toArray).cells.toList=us:=⟨ajY hr hc,by simp [Value.cells]⟩
  have one:v.cells = #[v] → ∃ u,RepA g s w (cs.headD .junk) u∧u.cells.toList=us:=by
    intro h1
    rw [h1] at hl
    match us,hl with
    | [u],_ =>
      match cs,hr with
      | [],hr=>simp [RepAs] at hr
      | c :: cs,hr =>
        obtain ⟨y,ys,e,h2,h3⟩:=hr
        simp only [List.cons.injEq] at e
        obtain ⟨rfl,rfl⟩:=e
        have hcu:=hc u (by simp)
        exact ⟨u,h2,by cases u <;> first | rfl | (simp [isCell] at hcu)⟩
  cases x with
  | junk=>exact absurd rfl hj
  | p x =>
    cases x with
    | agg _=>exact ⟨_,ag.1,ag.2⟩
    | bool _=>have e:v=_:=hx; subst e; exact one rfl
    | int _ _=>have e:v=_:=hx; subst e; exact one rfl
    | str _=>obtain ⟨_,rfl,_⟩:=hx; exact one rfl
    | nilp=>have e:v=_:=hx; subst e; exact one rfl
    | nils=>have e:v=_:=hx; subst e; exact one rfl
    | nilm=>have e:v=_:=hx; subst e; exact one rfl
    | nilf=>have e:v=_:=hx; subst e; exact one rfl
    | nili=>have e:v=_:=hx; subst e; exact one rfl
    | tup _=>obtain ⟨_,rfl,_⟩:=hx; exact one rfl
    | iface _ _=>obtain ⟨_,rfl,_⟩:=hx; exact one rfl
    | sl _=>rcases hx with ⟨_,_,_,_,_,rfl,_⟩ | ⟨_,_,_,rfl⟩ <;> exact one rfl
    | ip _=>obtain ⟨_,_,_,rfl,_⟩:=hx; exact one rfl
    | fn _ _=>obtain ⟨_,rfl,_⟩:=hx; exact one rfl
  | agg _=>exact ⟨_,ag.1,ag.2⟩
  | own _ _=>exact hx.elim
  | ownm _=>exact hx.elim
  | tup _=>obtain ⟨_,rfl,_⟩:=hx; exact one rfl
  | iface _ _=>obtain ⟨_,rfl,_⟩:=hx; exact one rfl
  | cl _=>rcases hx with ⟨_,_,_,_,rfl,_⟩ | ⟨_,_,rfl⟩ <;> exact one rfl
  | box _ _=>obtain ⟨_,_,rfl⟩:=hx; exact one rfl
  | arr _ _ _ _ _=>obtain ⟨_,_,_,rfl,_⟩:=hx; exact one rfl
  | el _ _ _ _=>obtain ⟨_,_,rfl,_⟩:=hx; exact one rfl
  | fn _ _=>obtain ⟨_,rfl,_⟩:=hx; exact one rfl
  | fnb _ _=>obtain ⟨_,rfl,_⟩:=hx; exact one rfl
  | rf k _=>obtain ⟨_,_,rfl⟩:=hx; exact one (by cases k <;> rfl)
theorem flat_set {sz i:Nat} {vs:List Value} {v u:Value} (hs:∀ x ∈ vs,x.cells.size=sz) (hi:vs[i]? = some v) {off:Nat} {us:List Value} (hle:off + us.length≤sz)
    (hu:u.cells.toList=splice v.cells.toList off us):(vs.set i u).flatMap (·.cells.toList)=splice (vs.flatMap (·.cells.toList)) (i * sz + off) us:=by
  have hlt:=(List.getElem?_eq_some_iff.1 hi).1
  have hv:=(List.getElem?_eq_some_iff.1 hi).2
  have hvsz:v.cells.toList.length=sz:=by simpa using hs v (List.mem_of_getElem? hi)
  have e1:vs.set i u=vs.take i ++ u :: vs.drop (i + 1):=by rw [List.set_eq_take_append_cons_drop,if_pos hlt]
  have e2:vs=vs.take i ++ v :: vs.drop (i + 1):=by
    rw [← hv,List.getElem_cons_drop,List.take_append_drop]
  have l1:((vs.take i).flatMap (·.cells.toList)).length=i * sz:=by
    rw [aaD (fun x hx=>hs x (List.mem_of_mem_take hx))]
    simp [Nat.min_eq_left (Nat.le_of_lt hlt)]
  have:=splice_mid ((vs.take i).flatMap (·.cells.toList)) v.cells.toList ((vs.drop (i + 1)).flatMap (·.cells.toList)) us off (by omega)
  rw [l1] at this
  conv=>rhs; rw [e2]
  simp only [List.flatMap_append,List.flatMap_cons]
  rw [← List.append_assoc,this,e1]
  simp [hu]
theorem store_el (hi:Inv g s w) {id ep i off b o:Nat} {sz n:Nat} {xs xs' : List AVal} {lost fz:Nat} {e:AVal} {new cs' : List AVal} (hid:s id=some (.arr sz n xs ep lost fz))
    (hel:ElOk g s id ep i off b o) {us:List Value} (hr:RepAs g s w new us) (hc:∀ x ∈ us,isCell x=true) (hfz:fz≤i) (he:xs[i]? = some e) (hj:e ≠ .junk)
    (hp:aaT (cells e) off new=some cs') (hxs:xs' = xs.set i (reform e cs')) :
    ∃ c t g',w.heap[b]? = some (.cells c t (0,0))∧o + us.length≤c.size ∧
      Ext g s w g' (upd s id (.arr sz n xs' ep ep fz)) (w.setRow b (splice c.toList o us).toArray)∧Inv g' (upd s id (.arr sz n xs' ep ep fz)) (w.setRow b (splice c.toList o us).toArray):=by
  subst hxs
  obtain ⟨sz2,n2,xs2,cur2,lost2,fz2,h1,h2⟩:=hel
  rw [hid] at h1
  simp at h1
  obtain ⟨rfl,rfl,rfl,rfl,rfl,rfl⟩:=h1
  obtain ⟨hn,hlc,hfn,harr⟩:=hi.arr id _ _ _ _ _ _ hid
  obtain ⟨_,st,m,hrg,him,ho,hcb⟩:=h2 hlc
  have hcb:=hcb rfl
  obtain ⟨hmn,c,t,vs,hblk,hrep,hstr,hflat,himm,hroom⟩:=harr b st m hrg
  obtain ⟨_,hbb,hbs⟩:=hi.rgS _ _ _ _ hrg
  have hstr' : ∀ x ∈ vs,x.cells.size=sz:=fun x hx=>(hstr x hx).1
  have het:(xs.take m)[i]? = some e:=by rw [List.getElem?_take,if_pos him]; exact he
  obtain ⟨v,hv,hev⟩:=hrep.get het
  have hvm:=List.mem_of_getElem? hv
  obtain ⟨hle,hrep2⟩:=aek (cells_of hev hj) hr hp
  have hvsz:v.cells.toList.length=sz:=by simpa using (hstr v hvm).1
  have hcc:∀ x ∈ splice v.cells.toList off us,isCell x=true:=by
    intro x hx
    unfold splice at hx
    simp only [List.mem_append] at hx
    rcases hx with (hx | hx) | hx
    · exact (hstr v hvm).2 x (List.mem_of_mem_take hx)
    · exact hc x hx
    · exact (hstr v hvm).2 x (List.mem_of_mem_drop hx)
  obtain ⟨u,hu1,hu2⟩:=reform_rep hev hj (hstr v hvm).2 hrep2 hcc (by rw [← Array.length_toList]; exact abX hle)
  have hlenF:=aaD hstr'
  have hvlen:vs.length=m:=by rw [RepAs.length hrep]; simp; omega
  have hFle:i * sz + off + us.length≤(vs.flatMap (·.cells.toList)).length:=by
    rw [hlenF,hvlen]
    have:(i + 1) * sz≤m * sz:=Nat.mul_le_mul_right _ him
    rw [Nat.add_mul] at this
    omega
  rw [hlenF,hvlen] at hFle
  have hoc:o + us.length≤c.toList.length:=by simp; omega
  have hsize:(splice c.toList o us).toArray.size=c.size:=by simp [abX hoc]
  have hrgid:∀ b2 st2 m2,g.rg b2=some (id,st2,m2)→b2=b→st2=st∧m2=m:=by
    intro b2 st2 m2 h e; subst e; rw [hrg] at h; simp at h; exact ⟨h.1.symm,h.2.symm⟩
  let g' : Sg:={ g with rg:=fun b2=>if b2=b then some (id,st,m) else match g.rg b2 with
    | some (i2,st2,m2)=>if i2=id then none else some (i2,st2,m2)
    | none=>none }
  have hrg'b:g'.rg b=some (id,st,m):=by simp [g']
  have hrg' : ∀ b2 i2 st2 m2,i2 ≠ id→(g'.rg b2=some (i2,st2,m2) ↔ g.rg b2=some (i2,st2,m2)):=by
    intro b2 i2 st2 m2 hne
    by_cases hb2:b2=b
    · subst hb2
      rw [hrg'b,hrg]
    · simp only [g',hb2,if_false]
      cases hq:g.rg b2 with
      | none=>simp
      | some r =>
        obtain ⟨i3,st3,m3⟩:=r
        by_cases h3:i3=id
        · subst h3; simp; intro h; exact absurd h.symm hne
        · simp [h3]
  have hrg'i:∀ b2 st2 m2,g'.rg b2=some (id,st2,m2)→b2=b∧st2=st∧m2=m:=by
    intro b2 st2 m2 h
    by_cases hb2:b2=b
    · subst hb2; rw [hrg'b] at h; simp at h; exact ⟨rfl,h.1.symm,h.2.symm⟩
    · simp only [g',hb2,if_false] at h
      cases hq:g.rg b2 with
      | none=>simp [hq] at h
      | some r =>
        obtain ⟨i3,st3,m3⟩:=r
        simp only [hq] at h
        split at h
        · simp at h
        · rename_i h3; simp at h; exact absurd h.1 h3
  have hother:∀ i2 x,i2 ≠ id→(upd s id (.arr sz n (xs.set i (reform e cs')) ep ep fz) i2=some x ↔ s i2=some x):=fun i2 x h=>by rw [aak _ _ h]
  have e1:Ext g s w g' (upd s id (.arr sz n (xs.set i (reform e cs')) ep ep fz)) (w.setRow b (splice c.toList o us).toArray):=by
    refine ⟨?_,fun _ _ h=>h, ?_, ?_,rfl,Below.setRow hbb,fun _ _ _ h=>h,rfl,fun k hk=>⟨setRow_other _ _ _ _ (fun e=>by have:=(hi.prS k hk).2.1; rw [e,hrg] at this; simp at this),fun _ h=>h⟩⟩
    · intro b' o' x h hx
      refine ⟨h, ?_⟩
      by_cases hb' : b' = b
      · subst hb'
        rw [cell_setRow hblk]
        rw [aa4 hblk] at hx
        have h3:=himm o' h
        have h4:fz * sz≤i * sz:=Nat.mul_le_mul_right _ hfz
        rw [List.getElem?_toArray,aeV hoc,if_pos (by omega)]
        simpa using hx
      · rw [aib hb']; exact hx
    · rintro i2 ep2 off2 len2 capd2 b2 o2 cap2 ⟨sz2,n2,xs2,cur2,lost2,fz2,h1,h3⟩
      by_cases hii:i2=id
      · subst hii
        rw [hid] at h1
        simp at h1
        obtain ⟨rfl,rfl,rfl,rfl,rfl,rfl⟩:=h1
        refine ⟨_,_,_,_,_,_,aaJ _ _ _,fun hl=>?_⟩
        obtain ⟨h4,st2,m2,h5,h6,h7,h8,h9⟩:=h3 (Nat.le_trans hlc hl)
        have hep:ep2=ep:=by omega
        have hb2:b=b2:=by rw [← hcb]; exact h9 hep
        subst hb2
        obtain ⟨rfl,rfl⟩:=hrgid _ _ _ h5 rfl
        exact ⟨h4,_,_,hrg'b,h6,h7,fun hcd=>by rw [aei hblk hsize]; exact h8 hcd,h9⟩
      · refine ⟨_,_,_,_,_,_,(hother _ _ hii).2 h1,fun hl=>?_⟩
        obtain ⟨h4,st2,m2,h5,h6,h7,h8,h9⟩:=h3 hl
        exact ⟨h4,st2,m2,(hrg' _ _ _ _ hii).2 h5,h6,h7,fun hcd=>by rw [aei hblk hsize]; exact h8 hcd,h9⟩
    · rintro i2 ep2 j2 off2 b2 o2 ⟨sz2,n2,xs2,cur2,lost2,fz2,h1,h3⟩
      by_cases hii:i2=id
      · subst hii
        rw [hid] at h1
        simp at h1
        obtain ⟨rfl,rfl,rfl,rfl,rfl,rfl⟩:=h1
        refine ⟨_,_,_,_,_,_,aaJ _ _ _,fun hl=>?_⟩
        obtain ⟨h4,st2,m2,h5,h6,h7,h8⟩:=h3 (Nat.le_trans hlc hl)
        have hep:ep2=ep:=by omega
        have hb2:b=b2:=by rw [← hcb]; exact h8 hep
        subst hb2
        obtain ⟨rfl,rfl⟩:=hrgid _ _ _ h5 rfl
        exact ⟨h4,_,_,hrg'b,h6,h7,h8⟩
      · refine ⟨_,_,_,_,_,_,(hother _ _ hii).2 h1,fun hl=>?_⟩
        obtain ⟨h4,st2,m2,h5,h6,h7,h8⟩:=h3 hl
        exact ⟨h4,st2,m2,(hrg' _ _ _ _ hii).2 h5,h6,h7,h8⟩
  refine ⟨c,t,g',hblk,by simpa using hoc,e1, ?_, ?_, ?_, ?_,hi.inj,fun b' o' h=>by simpa using hi.immS b' o' h,by simpa using hi.baseS,
    ad2 hi.ho e1 (fun i h hh=>upd_ho hh (by simp)) (fun i b' hb' _=>setRow_other _ _ _ _ (fun e=>by subst e; have:=(hi.bxS _ _ hb').2.2.1; rw [hrg] at this; simp at this)),hi.prS.step (by simp) rfl (fun b2 hpb=>.inl (by have h2:=(hi.prS b2 hpb).2.1; have hne:b2 ≠ b:=(fun e=>by have:=(hi.prS b2 hpb).2.1; rw [e,hrg] at this; simp at this); simp [g',hne,h2])) (fun _ _ _ h=>⟨_,h⟩)⟩
  · intro i2 ds h
    have hii:i2 ≠ id:=fun e=>by subst e; simp at h
    obtain ⟨b2,c2,t2,h3,h4,h5,h6⟩:=hi.box i2 ds ((hother _ _ hii).1 h)
    have hb2:b2 ≠ b:=fun e=>by subst e; have:=(hi.bxS _ _ h3).2.2.1; rw [hrg] at this; simp at this
    exact ⟨b2,c2,t2,h3,by rw [setRow_other _ _ _ _ hb2]; exact h4,RepAs.ext e1 _ _ h5,h6⟩
  · intro i2 sz2 n2 xs2 cur2 lost2 fz2 h
    by_cases hii:i2=id
    · subst hii
      simp at h
      obtain ⟨rfl,rfl,rfl,rfl,rfl,rfl⟩:=h
      refine ⟨by simpa using hn,Nat.le_refl _,hfn,fun b2 st2 m2 hb2=>?_⟩
      obtain ⟨rfl,rfl,rfl⟩:=hrg'i _ _ _ hb2
      have hset:(xs.set i (reform e cs')).take m2=(xs.take m2).set i (reform e cs'):=by rw [List.take_set]
      refine ⟨hmn,_,t,vs.set i u,setRow_heap w b2 c _ t _ hblk, ?_, ?_, ?_,himm,by simpa [abX hoc] using hroom⟩
      · rw [hset]; exact RepAs.ext e1 _ _ (hrep.set hu1)
      · intro x hx
        rcases List.mem_or_eq_of_mem_set hx with hx | rfl
        · exact hstr x hx
        · have hu3:x.cells.toList=splice v.cells.toList off us:=hu2
          refine ⟨by rw [← Array.length_toList,hu3,abX hle,hvsz],fun y hy=>hcc y (by rw [← hu3]; exact hy)⟩
      · intro j x hj'
        rw [flat_set hstr' hv (by rw [← hvsz]; exact hle) hu2] at hj'
        have:=splice_within (l:=vs.flatMap (·.cells.toList)) (c:=c.toList) (st:=st2) (by rw [hlenF,hvlen]; exact hFle) (by rw [← Nat.add_assoc, ← ho]; exact hoc)
          (fun j x h=>by simpa using hflat j x h) j x hj'
        rw [← Nat.add_assoc, ← ho] at this
        simpa using this
    · obtain ⟨h3,h4,h5,h6⟩:=hi.arr i2 sz2 n2 xs2 cur2 lost2 fz2 ((hother _ _ hii).1 h)
      refine ⟨h3,h4,h5,fun b2 st2 m2 hb2=>?_⟩
      have hb2':=(hrg' _ _ _ _ hii).1 hb2
      have hbb2:b2 ≠ b:=fun e=>by subst e; rw [hrg] at hb2'; simp at hb2'; exact hii hb2'.1.symm
      obtain ⟨h7,c2,t2,vs2,h8,h9,h10⟩:=h6 b2 st2 m2 hb2'
      exact ⟨h7,c2,t2,vs2,by rw [setRow_other _ _ _ _ hbb2]; exact h8,RepAs.ext e1 _ _ h9,h10⟩
  · intro b2 i2 st2 m2 h
    by_cases hii:i2=id
    · subst hii
      obtain ⟨rfl,rfl,rfl⟩:=hrg'i _ _ _ h
      exact ⟨⟨_,_,_,_,_,_,aaJ _ _ _⟩,hbb,by simpa using hbs⟩
    · obtain ⟨⟨sz2,n2,xs2,cur2,lost2,fz2,h3⟩,h4,h5⟩:=hi.rgS b2 i2 st2 m2 ((hrg' _ _ _ _ hii).1 h)
      exact ⟨⟨_,_,_,_,_,_,(hother _ _ hii).2 h3⟩,h4,by simpa using h5⟩
  · intro i2 b2 h
    obtain ⟨h3,h4,h5,h6,h7⟩:=hi.bxS i2 b2 h
    have hb2:b2 ≠ b:=fun e=>by subst e; rw [hrg] at h5; simp at h5
    refine ⟨h3,by simpa using h4,by simp [g',hb2,h5],h6, ?_⟩
    have hii:i2 ≠ id:=fun e=>by subst e; rcases h7 with ⟨_,h7⟩ | ⟨_,h7⟩ <;> rw [hid] at h7 <;> simp at h7
    rw [aak _ _ hii]; exact h7
end
end Go.Proofs.YtdnbnpknpejpdaaGreatDoor.Sw
namespace Go.Proofs.YtdnbnpknpejpdaaGreatDoor.Sw
open Go.RowKit
section
variable {P:Program} {g:Sg} {s:Sto} {w:World}
def aeT (w:World) (b o:Nat) (vs:List Value):Prop:=∀ (i:Nat) (c:Value),vs[i]? = some c→w.cell? ⟨b,o + i,none⟩=some c
theorem aaH.in {I:Nat→Nat→Prop} {b o:Nat} {vs:List Value} (h:aaH I w b o vs):aeT w b o vs:=fun i c hi=>(h i c hi).1
theorem afN {b o:Nat} {vs:List Value} (h:aeT w b o vs):(loadCells ⟨b,o,none⟩ vs.length).run P w = .ok vs.toArray w :=
  run_loadCells_list w ⟨b,o,none⟩ vs fun j v hj=>by rw [Addr.add_lit]; exact h j v hj
theorem loadVar_run {t n:Nat} {gg:Bool} {b o off:Nat} {cs:List AVal} {vs:List Value} {x:AVal} (hg:aggT P t=some gg) (hn:szT P t=some n) (hr:RepAs g s w cs vs)
    (hc:∀ v ∈ vs,isCell v=true) (hin:aeT w b o vs) (h:part gg cs off n=some x):∃ u,(loadVar t ⟨b,o + off,none⟩).run P w = .ok u w∧RepA g s w x u:=by
  obtain ⟨u,h1,h2,h3⟩:=part_rep hr hc h
  refine ⟨u, ?_,h1⟩
  unfold loadVar
  simp only [Sem.run_bind,abY hg,Result.andThen_ok]
  cases gg with
  | true =>
    obtain ⟨h4,rfl⟩:=h2 rfl
    have hl:((vs.drop off).take n).length=n:=by simp; omega
    have hin2:aeT w b (o + off) ((vs.drop off).take n):=by
      intro i c hi
      rw [List.getElem?_take] at hi
      split at hi
      · have:=hin (off + i) c (by simpa using hi)
        rw [show o + off + i=o + (off + i) by omega]; exact this
      · simp at hi
    have:=afN (P:=P) hin2
    rw [hl] at this
    simp only [if_true,Sem.run_bind,aaw hn,Result.andThen_ok,this,Sem.run_pure]
  | false =>
    have:=hin off u (h3 rfl)
    simp [this]
theorem at_rep {S:St} (hs:∀ id,s id=S.get id) (hi:Inv g s w) {x:AVal} {v:Value} {cs:List AVal} {off:Nat} {ids:List Nat} (hx:RepA g s w x v) (h:at_ S x=some (cs,off,ids)) :
    ∃ b o vs,v = .pointer (some ⟨b,o + off,none⟩)∧RepAs g s w cs vs∧(∀ c ∈ vs,isCell c=true)∧aeT w b o vs:=by
  unfold at_ at h
  split at h
  · rename_i id off'
    split at h <;> simp at h
    rename_i ds hid
    obtain ⟨rfl,rfl,rfl⟩:=h
    obtain ⟨b,hb,rfl⟩:=hx
    obtain ⟨b2,c,t,h1,h2,h3,h4⟩:=hi.box id _ ((hs id).trans hid)
    rw [hb] at h1
    simp at h1; subst h1
    exact ⟨b,0,c.toList,by simp,h3,h4,fun i c' hc=>by rw [aa4 h2]; simpa using hc⟩
  · rename_i id ep i off'
    split at h
    · rename_i sz n xs cur lost fz hid
      split at h
      · rename_i hle
        have hle:=Nat.le_of_ble_eq_true hle
        simp only [nth_eq] at h
        split at h <;> simp at h
        rename_i e hne he
        obtain ⟨rfl,rfl,rfl⟩:=h
        obtain ⟨b,o,rfl,sz2,n2,xs2,cur2,lost2,fz2,h1,h2⟩:=hx
        have h1':=h1
        rw [hs id,hid] at h1
        simp at h1
        obtain ⟨rfl,rfl,rfl,rfl,rfl,rfl⟩:=h1
        obtain ⟨_,st,m,h3,h4,h5,_⟩:=h2 hle
        obtain ⟨hn,_,_,harr⟩:=hi.arr id _ _ _ _ _ _ h1'
        obtain ⟨hm,c,t,vs,h6,h7,h8,h9,_⟩:=harr b st m h3
        have het:(xs.take m)[i]? = some e:=by rw [List.getElem?_take,if_pos h4]; exact he
        obtain ⟨v,h10,h11⟩:=h7.get het
        have hvm:=List.mem_of_getElem? h10
        refine ⟨b,st + i * sz,v.cells.toList,by rw [h5],cells_of h11 (fun e=>hne e),(h8 v hvm).2, ?_⟩
        intro j x hj
        rw [aa4 h6]
        have hlt:=(List.getElem?_eq_some_iff.1 h10).1
        have:(vs.flatMap (·.cells.toList))[i * sz + j]? = some x:=by
          have e1:=agQ (vs:=vs) i (fun y hy=>(h8 y hy).1)
          have e2:vs.drop i=v :: vs.drop (i + 1):=by
            rw [List.drop_eq_getElem_cons hlt,(List.getElem?_eq_some_iff.1 h10).2]
          rw [e2,List.flatMap_cons] at e1
          rw [← List.getElem?_drop, ← e1,List.getElem?_append_left (List.getElem?_eq_some_iff.1 hj).1]
          exact hj
        rw [show st + i * sz + j=st + (i * sz + j) by omega]
        exact h9 _ _ this
      · simp at h
    · simp at h
  · simp at h
theorem one_cell {I:Nat→Nat→Prop} {x:PVal} {v:Value} (hx:RepP I w x v) (hn:isAggP x=false):v.cells = #[v]:=by
  cases x with
  | agg _=>simp [isAggP] at hn
  | bool _=>have e:v=_:=hx; subst e; rfl
  | int _ _=>have e:v=_:=hx; subst e; rfl
  | str _=>obtain ⟨_,rfl,_⟩:=hx; rfl
  | nilp=>have e:v=_:=hx; subst e; rfl
  | nils=>have e:v=_:=hx; subst e; rfl
  | nilm=>have e:v=_:=hx; subst e; rfl
  | nilf=>have e:v=_:=hx; subst e; rfl
  | nili=>have e:v=_:=hx; subst e; rfl
  | tup _=>obtain ⟨_,rfl,_⟩:=hx; rfl
  | iface _ _=>obtain ⟨_,rfl,_⟩:=hx; rfl
  | sl _=>rcases hx with ⟨_,_,_,_,_,rfl,_⟩ | ⟨_,_,_,rfl⟩ <;> rfl
  | ip _=>obtain ⟨_,_,_,rfl,_⟩:=hx; rfl
  | fn _ _=>obtain ⟨_,rfl,_⟩:=hx; rfl
theorem load_run {S:St} (hs:∀ id,s id=S.get id) (hi:Inv g s w) {t:Nat} {x:AVal} {v:Value} {e:Eff} (hx:RepA g s w x v) (h:loadOp P S t x=some e) :
    e.wr = [] ∧ ∃ u,(Instr.loadAt t v).run P w = .ok u w∧RepA g s w e.v u:=by
  unfold loadOp at h
  split at h
  · rename_i gg n hg hn
    split at h
    · rename_i y
      obtain ⟨b,o,u,rfl,h1,h2⟩:=hx
      have hin:=h2.in
      split at h
      · split at h
        · rename_i cs
          split at h <;> simp at h
          rename_i hl
          have hl:=Nat.eq_of_beq_eq_true hl
          subst h
          obtain ⟨vs,rfl,h3,h4⟩:=h1
          refine ⟨rfl, .agg vs.toArray, ?_,vs,rfl,h3,h4⟩
          have hin' : aeT w b o vs:=by simpa [Value.cells] using hin
          have:=afN (P:=P) hin'
          rw [RepPs.length h3,hl] at this
          simp only [Instr.loadAt,Instr.sureAddr,loadVar,Sem.run_bind,Sem.run_pure,Result.andThen_ok,abY hg,if_true,aaw hn,this]
        · simp at h
      · split at h
        · simp at h
        · rename_i hna
          simp at h; subst h
          have hna' : isAggP y=false:=by cases y <;> first | rfl | exact absurd rfl (hna _)
          have hc:=one_cell h1 hna'
          have:=hin 0 u (by rw [hc]; rfl)
          refine ⟨rfl,u, ?_,h1⟩
          simp only [Nat.add_zero] at this
          simp [Instr.loadAt,Instr.sureAddr,loadVar,abY hg,this]
    · split at h
      · rename_i cs off ids hat
        simp only [Option.map_eq_some_iff] at h
        obtain ⟨y,h1,rfl⟩:=h
        obtain ⟨b,o,vs,rfl,h2,h3,h4⟩:=at_rep hs hi hx hat
        obtain ⟨u,h5,h6⟩:=loadVar_run hg hn h2 h3 h4 h1
        refine ⟨rfl,u, ?_,h6⟩
        simp only [Instr.loadAt,Instr.sureAddr,Sem.run_bind,Sem.run_pure,Result.andThen_ok,h5]
      · simp at h
  · simp at h
theorem ip_part {gg:Bool} {cs:List PVal} {off n:Nat} {x:PVal} {b o:Nat} {y:Value} (hr:RepP g.imm w (.agg cs) y) (hc:aaH g.imm w b o y.cells.toList) (h:partP gg cs off n=some x) :
    RepP g.imm w (.ip x) (.pointer (some ⟨b,o + off,none⟩)):=by
  obtain ⟨vs,rfl,h1,h2⟩:=hr
  obtain ⟨u,h3,h4,h5⟩:=partP_rep h1 h2 h
  refine ⟨b,o + off,u,rfl,h3, ?_⟩
  have hc' : aaH g.imm w b o vs:=by simpa [Value.cells] using hc
  cases gg with
  | true =>
    obtain ⟨h6,rfl⟩:=h4 rfl
    simpa [Value.cells] using hc'.sub off n
  | false =>
    have h6:=h5 rfl
    have hcu:=h2 u (List.mem_of_getElem? h6)
    have:u.cells = #[u]:=by cases u <;> first | rfl | (simp [isCell] at hcu)
    rw [this]
    intro i c hi
    cases i with
    | zero=>simp at hi; subst hi; exact hc' off u h6
    | succ i=>simp at hi
theorem fieldAddr_run {t f:Nat} {x z:AVal} {v:Value} (hx:RepA g s w x v) (h:ad3 P t f x=some z):∃ u,(Instr.fieldAt t v f).run P w = .ok u w∧RepA g s w z u:=by
  unfold ad3 at h
  split at h
  · rename_i fd hf
    split at h
    · rename_i n gg hn hg
      split at h
      · simp at h
      · rename_i hn0
        unfold fieldT at hf
        split at hf
        · rename_i fs hu
          have run:∀ a:Addr,(Instr.fieldAt t (.pointer (some a)) f).run P w = .ok (.pointer (some (a.add fd.offset))) w:=by
            intro a
            simp only [Instr.fieldAt,Sem.run_bind,aaa hu,Result.andThen_ok,hf,Instr.sureAddr,Sem.run_pure,fieldPlace,aaw hn]
            rw [if_neg (by simpa using hn0)]
            rfl
          split at h <;> simp at h
          · subst h
            obtain ⟨b,hb,rfl⟩:=hx
            exact ⟨_,run _,b,hb,by rw [Addr.add_lit]⟩
          · subst h
            obtain ⟨b,o,rfl,sz2,n2,xs2,cur2,lost2,fz2,h1,h2⟩:=hx
            refine ⟨_,run _,b,o + fd.offset,by rw [Addr.add_lit],sz2,n2,xs2,cur2,lost2,fz2,h1,fun hl=>?_⟩
            obtain ⟨h3,st,m,h4,h5,h6,h7⟩:=h2 hl
            exact ⟨h3,st,m,h4,h5,by omega,h7⟩
          · obtain ⟨y,h1,rfl⟩:=h
            obtain ⟨b,o,u,rfl,h2,h3⟩:=hx
            exact ⟨_,run _,by rw [Addr.add_lit]; exact ip_part h2 h3 h1⟩
        · simp at hf
    · simp at h
  · simp at h
theorem cellsP_size {I:Nat→Nat→Prop} {x:PVal} {v:Value} (hx:RepP I w x v):v.cells.size=(cellsP x).length:=by
  cases x with
  | agg cs=>obtain ⟨us,rfl,h3,_⟩:=hx; simp [Value.cells,cellsP,RepPs.length h3]
  | bool _=>have e:v=_:=hx; subst e; rfl
  | int _ _=>have e:v=_:=hx; subst e; rfl
  | str _=>obtain ⟨_,rfl,_⟩:=hx; rfl
  | nilp=>have e:v=_:=hx; subst e; rfl
  | nils=>have e:v=_:=hx; subst e; rfl
  | nilm=>have e:v=_:=hx; subst e; rfl
  | nilf=>have e:v=_:=hx; subst e; rfl
  | nili=>have e:v=_:=hx; subst e; rfl
  | tup _=>obtain ⟨_,rfl,_⟩:=hx; rfl
  | iface _ _=>obtain ⟨_,rfl,_⟩:=hx; rfl
  | sl _=>rcases hx with ⟨_,_,_,_,_,rfl,_⟩ | ⟨_,_,_,rfl⟩ <;> rfl
  | ip _=>obtain ⟨_,_,_,rfl,_⟩:=hx; rfl
  | fn _ _=>obtain ⟨_,rfl,_⟩:=hx; rfl
theorem ip_elem {xs:List PVal} {vs:List Value} {b o sz sz' n:Nat} {x:PVal} (hr:RepPs g.imm w xs vs) (hs:∀ y ∈ vs,y.cells.size=sz) (hc:aaH g.imm w b o (vs.flatMap (·.cells.toList)))
    (h:xs[n]? = some x) (hl:(cellsP x).length=sz'):RepP g.imm w (.ip x) (.pointer (some ⟨b,o + n * sz',none⟩)):=by
  obtain ⟨v,h1,h2⟩:=hr.get h
  have hvm:=List.mem_of_getElem? h1
  have e0:sz=sz':=by rw [← hs v hvm,cellsP_size h2,hl]
  subst e0
  refine ⟨b,o + n * sz,v,rfl,h2, ?_⟩
  intro j c hj
  have hlt:=(List.getElem?_eq_some_iff.1 h1).1
  have:(vs.flatMap (·.cells.toList))[n * sz + j]? = some c:=by
    have e1:=agQ (vs:=vs) n hs
    have e2:vs.drop n=v :: vs.drop (n + 1):=by
      rw [List.drop_eq_getElem_cons hlt,(List.getElem?_eq_some_iff.1 h1).2]
    rw [e2,List.flatMap_cons] at e1
    rw [← List.getElem?_drop, ← e1,List.getElem?_append_left (List.getElem?_eq_some_iff.1 hj).1]
    exact hj
  rw [show o + n * sz + j=o + (n * sz + j) by omega]
  exact hc _ _ this
theorem indexAddr_run {S:St} (hs:∀ id,s id=S.get id) {t:Nat} {x i:AVal} {v vi:Value} {e:Eff} (hx:RepA g s w x v) (hi:RepA g s w i vi) (h:abN P S t x i=some e) :
    e.wr = [] ∧ ∃ u,(Instr.indexAt t v vi).run P w = .ok u w∧RepA g s w e.v u:=by
  unfold abN at h
  split at h
  · rename_i n hn
    obtain ⟨k,rfl⟩:=agE hi hn
    split at h
    · rename_i el hu
      split at h
      · rename_i sz hsz
        have run:∀ (a:Addr) (len cap:Nat),n < len→(Instr.indexAt t (.slice (some a) len cap) (.int k (n:Int))).run P w = .ok (.pointer (some (a.add (n * sz)))) w:=by
          intro a len cap hlt
          have hc:(0:Int)≤(n:Int)∧(n:Int) < (len:Int):=by omega
          simp only [Instr.indexAt,asIntOf,Sem.run_bind,Sem.run_pure,Result.andThen_ok,aaa hu]
          rw [if_pos hc]
          simp only [Sem.run_bind,aaw hsz,Result.andThen_ok,Int.toNat_natCast,Sem.run_pure]
        split at h
        · rename_i xs
          simp only [nth_eq] at h
          rcases hx with ⟨b,o,cap,sz',vs,rfl,hcap,hr,hss,hcell⟩ | ⟨rfl,_⟩
          case inr=>simp at h
          split at h
          · rename_i y hy
            split at h <;> simp at h
            rename_i hl
            subst h
            have hlt:=(List.getElem?_eq_some_iff.1 hy).1
            exact ⟨rfl,_,run _ _ _ hlt,by rw [Addr.add_lit]; exact ip_elem hr hss hcell hy (Nat.eq_of_beq_eq_true hl)⟩
          · simp at h
        · rename_i xs
          simp only [nth_eq] at h
          rcases hx with ⟨b,o,sz',vs,rfl,hr,hss,hcell⟩ | ⟨rfl,_⟩
          case inr=>simp at h
          split at h
          · rename_i y hy
            split at h <;> simp at h
            rename_i hl
            subst h
            have hlt:=(List.getElem?_eq_some_iff.1 hy).1
            exact ⟨rfl,_,run _ _ _ hlt,by rw [Addr.add_lit]; exact ip_elem hr hss hcell hy (Nat.eq_of_beq_eq_true hl)⟩
          · simp at h
        · rename_i id ep off len capd
          obtain ⟨b,o,cap,rfl,hcap,hcd,sz2,n2,xs2,cur2,lost2,fz2,h1,h2⟩:=hx
          split at h
          · rename_i sz' n' xs' cur' lost' fz' hobj
            split at h <;> simp at h
            rename_i hb1 hb2 hb3
            subst h
            have h1':=h1
            rw [hs id,hobj] at h1
            simp at h1
            obtain ⟨rfl,rfl,rfl,rfl,rfl,rfl⟩:=h1
            have hlt:n < len:=by
              have:Nat.ble (n + 1) len=true:=hb1
              exact Nat.le_of_ble_eq_true this
            have hsz' : sz=sz':=Nat.eq_of_beq_eq_true hb2
            subst hsz'
            refine ⟨rfl,_,run _ _ _ hlt,b,o + n * sz,by rw [Addr.add_lit],sz,n',xs',cur',lost',fz',h1',fun hl=>?_⟩
            obtain ⟨h3,st,m,h4,h5,h6,h7,h8⟩:=h2 hl
            refine ⟨h3,st,m,h4,by omega, ?_,h8⟩
            rw [h5,Nat.add_mul]; omega
          · simp at h
        · simp at h
      · simp at h
    · rename_i len el hu
      split at h
      · rename_i sz hsz
        split at h
        · rename_i hb
          have hlt:n < len:=by
            have:Nat.ble (n + 1) len=true:=hb
            exact Nat.le_of_ble_eq_true this
          have run:∀ (a:Addr),(Instr.indexAt t (.pointer (some a)) (.int k (n:Int))).run P w = .ok (.pointer (some (a.add (n * sz)))) w:=by
            intro a
            have hc:(0:Int)≤(n:Int)∧(n:Int) < (len:Int):=by omega
            simp only [Instr.indexAt,asIntOf,Sem.run_bind,Sem.run_pure,Result.andThen_ok,aaa hu,Instr.sureAddr]
            rw [if_pos hc]
            simp only [Sem.run_bind,aaw hsz,Result.andThen_ok,Int.toNat_natCast,Sem.run_pure]
          split at h
          · simp at h; subst h
            obtain ⟨b,hb,rfl⟩:=hx
            exact ⟨rfl,_,run _,b,hb,by rw [Addr.add_lit]⟩
          · simp at h; subst h
            obtain ⟨b,o,rfl,sz2,n2,xs2,cur2,lost2,fz2,h1,h2⟩:=hx
            refine ⟨rfl,_,run _,b,o + n * sz,by rw [Addr.add_lit],sz2,n2,xs2,cur2,lost2,fz2,h1,fun hl=>?_⟩
            obtain ⟨h3,st,m,h4,h5,h6,h7⟩:=h2 hl
            exact ⟨h3,st,m,h4,h5,by omega,h7⟩
          · split at h
            · simp only [Option.map_eq_some_iff] at h
              obtain ⟨y,h1,rfl⟩:=h
              obtain ⟨b,o,u,rfl,h2,h3⟩:=hx
              exact ⟨rfl,_,run _,by rw [Addr.add_lit]; exact ip_part h2 h3 h1⟩
            · simp at h
          · simp at h
        · simp at h
      · simp at h
    · simp at h
  · simp at h
def Does (g:Sg) (s:Sto) (w:World) (e:Eff) (r:Result Next):Prop :=
  ∃ u g' w',(r = .ok (.value u) w' ∨ (r = .ok .skip w' ∧ u=undef))∧Ext g s w g' (e.wr.foldl (fun s x=>upd s x.1 x.2) s) w' ∧
    Inv g' (e.wr.foldl (fun s x=>upd s x.1 x.2) s) w' ∧ RepA g' (e.wr.foldl (fun s x=>upd s x.1 x.2) s) w' e.v u
theorem amb {t n:Nat} {b o:Nat} {c:Array Value} {ty:TypeId} {v:Value} (hn:szT P t=some n) (hsz:v.cells.size=n) (hblk:w.heap[b]? = some (.cells c ty (0,0)))
    (hc:∀ x ∈ v.cells.toList,isCell x=true) (hle:o + v.cells.toList.length≤c.size) :
    (Instr.storeAt t (.pointer (some ⟨b,o,none⟩)) v).run P w = .ok () (w.setRow b (splice c.toList o v.cells.toList).toArray):=by
  have:=run_storeCells_at P b o ty v.cells.toList 0 c w hblk (by simpa using hle) (fun x hx=>by rw [← apu]; exact hc x hx)
  simp only [Nat.add_zero] at this
  simp only [Instr.storeAt,Instr.sureAddr,Sem.run_bind,Sem.run_pure,Result.andThen_ok,storeVar,aaw hn]
  rw [if_neg (by simp [hsz])]
  exact this
theorem store_run {S:St} (hs:∀ id,s id=S.get id) (hi:Inv g s w) {t:Nat} {x y:AVal} {vx vy:Value} {e:Eff} (hx:RepA g s w x vx) (hy:RepA g s w y vy) (h:ac0 P S t x y=some e) :
    ∃ g' w',(Instr.storeAt t vx vy).run P w = .ok () w' ∧ Ext g s w g' (e.wr.foldl (fun s x=>upd s x.1 x.2) s) w' ∧ Inv g' (e.wr.foldl (fun s x=>upd s x.1 x.2) s) w' ∧ e.v = .p (.tup []):=by
  unfold ac0 at h
  split at h
  · rename_i gg n hg hn
    split at h
    · rename_i new hnew
      obtain ⟨k1,k2,k3,_,_⟩:=abO hy hnew
      split at h
      · rename_i id off
        split at h
        · rename_i cs hid
          simp only [Option.map_eq_some_iff] at h
          obtain ⟨cs',h1,rfl⟩:=h
          obtain ⟨b,hb,rfl⟩:=hx
          obtain ⟨b2,c,ty,h2,h3,h4,h5,h6⟩:=store_box hi ((hs id).trans hid) k1 k3 h1
          rw [hb] at h2
          simp at h2; subst h2
          exact ⟨g,_,amb hn k2 h3 k3 h4,h5,h6,rfl⟩
        · simp at h
      · rename_i id ep i off
        split at h
        · rename_i sz m xs ep' lost fz hid
          split at h
          · rename_i hb1 hb2
            have hb1:=Nat.eq_of_beq_eq_true hb1
            subst hb1
            have hb2:=Nat.le_of_ble_eq_true hb2
            simp only [nth_eq] at h
            split at h
            · simp at h
            · rename_i el hne he
              split at h
              · rename_i cs' hcs
                rw [ajp] at h
                have hlt:=(List.getElem?_eq_some_iff.1 he).1
                rw [if_pos hlt] at h
                simp at h
                subst h
                obtain ⟨b,o,rfl,hel⟩:=hx
                obtain ⟨c,ty,g',h2,h3,h4,h5⟩:=store_el hi ((hs id).trans hid) hel k1 k3 hb2 he (fun e=>hne e) hcs rfl
                exact ⟨g',_,amb hn k2 h2 k3 h3,h4,h5,rfl⟩
              · simp at h
            · simp at h
          · simp at h
        · simp at h
      · simp at h
    · simp at h
  · simp at h
end
end Go.Proofs.YtdnbnpknpejpdaaGreatDoor.Sw
namespace Go.Proofs.YtdnbnpknpejpdaaGreatDoor.Sw
open Go.RowKit
section
variable {g:Sg} {s:Sto} {w:World}
theorem append_at (hi:Inv g s w) {id ep len b o cap:Nat} {sz n:Nat} {xs:List AVal} {cur lost fz:Nat} {ys:List AVal} {us:List Value} (hid:s id=some (.arr sz n xs cur lost fz))
    (hv:ViewOk g s w id ep 0 len false b o cap) (hl:lost≤ep) (hr:RepAs g s w ys us) (hu:∀ v ∈ us,v.cells.size=sz ∧ ∀ x ∈ v.cells.toList,isCell x=true)
    (hlen:len≤n) (hfz:fz≤len) (hroom:len + ys.length≤cap) (hne:0 < ys.length) {lost' : Nat} (hlost:(len=n∧lost' = lost) ∨ lost' = cur + 1) :
    ∃ c t g',w.heap[b]? = some (.cells c t (0,0))∧o + len * sz + (us.flatMap (·.cells.toList)).length≤c.size ∧
      Ext g s w g' (upd s id (.arr sz (len + ys.length) (xs.take len ++ ys) (cur + 1) lost' fz)) (w.setRow b (splice c.toList (o + len * sz) (us.flatMap (·.cells.toList))).toArray) ∧
      Inv g' (upd s id (.arr sz (len + ys.length) (xs.take len ++ ys) (cur + 1) lost' fz)) (w.setRow b (splice c.toList (o + len * sz) (us.flatMap (·.cells.toList))).toArray) ∧
      RepA g' (upd s id (.arr sz (len + ys.length) (xs.take len ++ ys) (cur + 1) lost' fz)) (w.setRow b (splice c.toList (o + len * sz) (us.flatMap (·.cells.toList))).toArray)
        (.arr id (cur + 1) 0 (len + ys.length) false) (.slice (some ⟨b,o,none⟩) (len + ys.length) cap):=by
  obtain ⟨sz2,n2,xs2,cur2,lost2,fz2,h1,h2⟩:=hv
  rw [hid] at h1
  simp at h1
  obtain ⟨rfl,rfl,rfl,rfl,rfl,rfl⟩:=h1
  obtain ⟨hn,hlc,hfn,harr⟩:=hi.arr id _ _ _ _ _ _ hid
  obtain ⟨hec,st,m,hrg,ho,hom,hcap,hcb⟩:=h2 hl
  have hcap:=hcap rfl
  simp only [Nat.zero_mul,Nat.add_zero] at ho
  subst ho
  simp only [Nat.zero_add] at hom
  obtain ⟨hmn,c,t,vs,hblk,hrep,hstr,hflat,himm,hreg⟩:=harr b o m hrg
  obtain ⟨_,hbb,hbs⟩:=hi.rgS _ _ _ _ hrg
  have hstr' : ∀ x ∈ vs,x.cells.size=sz:=fun x hx=>(hstr x hx).1
  have hu' : ∀ x ∈ us,x.cells.size=sz:=fun x hx=>(hu x hx).1
  have hul:us.length=ys.length:=RepAs.length hr
  have hFl:=aaD hu'
  rw [hul] at hFl
  have hvlen:vs.length=m:=by rw [RepAs.length hrep]; simp; omega
  have hbsz:World.bsize w b=c.size:=by unfold World.bsize; rw [hblk]
  have hoc:o + len * sz + (us.flatMap (·.cells.toList)).length≤c.toList.length:=by
    have h3:(len + ys.length) * sz≤cap * sz:=Nat.mul_le_mul_right _ hroom
    rw [Nat.add_mul] at h3
    rw [hbsz] at hcap
    have hct:c.toList.length=c.size:=Array.length_toList
    rw [hFl,hct]
    omega
  have hsize:(splice c.toList (o + len * sz) (us.flatMap (·.cells.toList))).toArray.size=c.size:=by simp [abX hoc]
  generalize hW:w.setRow b (splice c.toList (o + len * sz) (us.flatMap (·.cells.toList))).toArray=w'
  have hblk' : w'.heap[b]? = some (.cells (splice c.toList (o + len * sz) (us.flatMap (·.cells.toList))).toArray t (0,0)):=by rw [← hW]; exact setRow_heap w b c _ t _ hblk
  have hoth:∀ k,k ≠ b→w'.heap[k]? = w.heap[k]? := fun k hk=>by rw [← hW]; exact setRow_other w b k _ hk
  have hbs' : ∀ k,World.bsize w' k=World.bsize w k:=fun k=>by rw [← hW]; exact aei hblk hsize k
  have hhs:w'.heap.size=w.heap.size:=by rw [← hW]; simp
  let g' : Sg:={ g with
    rg:=fun b2=>if b2=b then some (id,o,len + ys.length) else match g.rg b2 with
      | some (i2,st2,m2)=>if i2=id∧lost' = cur + 1 then none else some (i2,st2,m2)
      | none=>none
    cb:=fun i=>if i=id then b else g.cb i }
  have hrg'b:g'.rg b=some (id,o,len + ys.length):=by simp [g']
  have hrg' : ∀ b2 i2 st2 m2,i2 ≠ id→(g'.rg b2=some (i2,st2,m2) ↔ g.rg b2=some (i2,st2,m2)):=by
    intro b2 i2 st2 m2 hne'
    by_cases hb2:b2=b
    · subst hb2
      rw [hrg'b,hrg]
      simp; intro h; exact absurd h.symm hne'
    · simp only [g',hb2,if_false]
      cases hq:g.rg b2 with
      | none=>simp
      | some r =>
        obtain ⟨i3,st3,m3⟩:=r
        by_cases h3:i3=id
        · subst h3
          by_cases h4:lost' = cur + 1
          · simp [h4]; intro h; exact absurd h.symm hne'
          · simp [h4]
        · simp [h3]
  have hrg'i:∀ b2 st2 m2,b2 ≠ b→g'.rg b2=some (id,st2,m2)→g.rg b2=some (id,st2,m2)∧lost' ≠ cur + 1:=by
    intro b2 st2 m2 hb2 h
    simp only [g',hb2,if_false] at h
    cases hq:g.rg b2 with
    | none=>simp [hq] at h
    | some r =>
      obtain ⟨i3,st3,m3⟩:=r
      simp only [hq] at h
      split at h
      · simp at h
      · rename_i h3
        simp at h
        obtain ⟨rfl,rfl,rfl⟩:=h
        exact ⟨rfl,fun e=>h3 ⟨rfl,e⟩⟩
  have hkeep:∀ b2 st2 m2,b2 ≠ b→lost' ≠ cur + 1→g.rg b2=some (id,st2,m2)→g'.rg b2=some (id,st2,m2):=by
    intro b2 st2 m2 hb2 hl' h
    simp [g',hb2,h,hl']
  have hother:∀ i2 x,i2 ≠ id→(upd s id (.arr sz (len + ys.length) (xs.take len ++ ys) (cur + 1) lost' fz) i2=some x ↔ s i2=some x):=fun i2 x h=>by rw [aak _ _ h]
  have hfull:lost' ≠ cur + 1→len=n∧lost' = lost:=fun h=>hlost.resolve_right h
  have hcell:∀ o',o' < o + len * sz→w'.cell? ⟨b,o',none⟩=w.cell? ⟨b,o',none⟩:=by
    intro o' h
    rw [aa4 hblk',aa4 hblk,List.getElem?_toArray,aeV hoc,if_pos h]
    simp
  have e1:Ext g s w g' (upd s id (.arr sz (len + ys.length) (xs.take len ++ ys) (cur + 1) lost' fz)) w':=by
    refine ⟨?_,fun _ _ h=>h, ?_, ?_,rfl,by rw [← hW]; exact Below.setRow hbb,fun _ _ _ h=>h,rfl,fun k hk=>⟨hoth k (fun e=>by have:=(hi.prS k hk).2.1; rw [e,hrg] at this; simp at this),fun _ h=>h⟩⟩
    · intro b' o' x h hx
      refine ⟨h, ?_⟩
      by_cases hb' : b' = b
      · subst hb'
        have h3:=himm o' h
        have h4:fz * sz≤len * sz:=Nat.mul_le_mul_right _ hfz
        rw [hcell o' (by omega)]; exact hx
      · rw [World.cell?_of_block (hoth b' hb')]; exact hx
    · rintro i2 ep2 off2 len2 capd2 b2 o2 cap2 ⟨sz2,n2,xs2,cur2,lost2,fz2,h1,h3⟩
      by_cases hii:i2=id
      · subst hii
        rw [hid] at h1
        simp at h1
        obtain ⟨rfl,rfl,rfl,rfl,rfl,rfl⟩:=h1
        refine ⟨_,_,_,_,_,_,aaJ _ _ _,fun hl2=>?_⟩
        by_cases hl' : lost' = cur + 1
        ·
          have:lost≤ep2:=by omega
          obtain ⟨h4,_⟩:=h3 this
          omega
        · obtain ⟨rfl,rfl⟩:=hfull hl'
          obtain ⟨h4,st2,m2,h5,h6,h7,h8,h9⟩:=h3 hl2
          by_cases hb2:b2=b
          · subst hb2
            rw [hrg] at h5
            simp at h5
            obtain ⟨rfl,rfl⟩:=h5
            exact ⟨by omega,o,_,hrg'b,h6,by omega,fun hcd=>by rw [hbs']; exact h8 hcd,fun _=>by simp [g']⟩
          · exact ⟨by omega,st2,m2,hkeep _ _ _ hb2 hl' h5,h6,h7,fun hcd=>by rw [hbs']; exact h8 hcd,fun he=>by omega⟩
      · refine ⟨_,_,_,_,_,_,(hother _ _ hii).2 h1,fun hl2=>?_⟩
        obtain ⟨h4,st2,m2,h5,h6,h7,h8,h9⟩:=h3 hl2
        exact ⟨h4,st2,m2,(hrg' _ _ _ _ hii).2 h5,h6,h7,fun hcd=>by rw [hbs']; exact h8 hcd,fun he=>by simp only [g',hii,if_false]; exact h9 he⟩
    · rintro i2 ep2 j2 off2 b2 o2 ⟨sz2,n2,xs2,cur2,lost2,fz2,h1,h3⟩
      by_cases hii:i2=id
      · subst hii
        rw [hid] at h1
        simp at h1
        obtain ⟨rfl,rfl,rfl,rfl,rfl,rfl⟩:=h1
        refine ⟨_,_,_,_,_,_,aaJ _ _ _,fun hl2=>?_⟩
        by_cases hl' : lost' = cur + 1
        · have:lost≤ep2:=by omega
          obtain ⟨h4,_⟩:=h3 this
          omega
        · obtain ⟨rfl,rfl⟩:=hfull hl'
          obtain ⟨h4,st2,m2,h5,h6,h7,h8⟩:=h3 hl2
          by_cases hb2:b2=b
          · subst hb2
            rw [hrg] at h5
            simp at h5
            obtain ⟨rfl,rfl⟩:=h5
            exact ⟨by omega,o,_,hrg'b,by omega,h7,fun _=>by simp [g']⟩
          · exact ⟨by omega,st2,m2,hkeep _ _ _ hb2 hl' h5,h6,h7,fun he=>by omega⟩
      · refine ⟨_,_,_,_,_,_,(hother _ _ hii).2 h1,fun hl2=>?_⟩
        obtain ⟨h4,st2,m2,h5,h6,h7,h8⟩:=h3 hl2
        exact ⟨h4,st2,m2,(hrg' _ _ _ _ hii).2 h5,h6,h7,fun he=>by simp only [g',hii,if_false]; exact h8 he⟩
  have htk:(xs.take len).length=len:=by simp; omega
  refine ⟨c,t,g',hblk,by simpa using hoc, ?_⟩
  rw [hW]
  refine ⟨e1,⟨?_, ?_, ?_, ?_,hi.inj,fun b' o' h=>by rw [hhs]; exact hi.immS b' o' h,by rw [hhs]; exact hi.baseS,
    ad2 hi.ho e1 (fun i h hh=>upd_ho hh (by simp)) (fun i b' hb' _=>hoth b' (fun e=>by subst e; have:=(hi.bxS _ _ hb').2.2.1; rw [hrg] at this; simp at this)),hi.prS.step (by omega) rfl (fun b2 hpb=>.inl (by have h2:=(hi.prS b2 hpb).2.1; have hne:b2 ≠ b:=(fun e=>by have:=(hi.prS b2 hpb).2.1; rw [e,hrg] at this; simp at this); simp [g',hne,h2])) (fun _ _ _ h=>⟨_,h⟩)⟩, ?_⟩
  · intro i2 ds h
    have hii:i2 ≠ id:=fun e=>by subst e; simp at h
    obtain ⟨b2,c2,t2,h3,h4,h5,h6⟩:=hi.box i2 ds ((hother _ _ hii).1 h)
    have hb2:b2 ≠ b:=fun e=>by subst e; have:=(hi.bxS _ _ h3).2.2.1; rw [hrg] at this; simp at this
    exact ⟨b2,c2,t2,h3,by rw [hoth _ hb2]; exact h4,RepAs.ext e1 _ _ h5,h6⟩
  · intro i2 sz2 n2 xs2 cur2 lost2 fz2 h
    by_cases hii:i2=id
    · subst hii
      simp at h
      obtain ⟨rfl,rfl,rfl,rfl,rfl,rfl⟩:=h
      refine ⟨by simp [htk],by rcases hlost with ⟨_,rfl⟩ | rfl <;> omega,by omega,fun b2 st2 m2 hb2=>?_⟩
      by_cases hbb2:b2=b
      · subst hbb2
        rw [hrg'b] at hb2
        simp at hb2
        obtain ⟨rfl,rfl⟩:=hb2
        have hdrop:(vs.take len).length=len:=by simp; omega
        refine ⟨Nat.le_refl _,_,t,vs.take len ++ us,hblk', ?_, ?_, ?_,himm, ?_⟩
        · have htk2:((xs.take len ++ ys).take (len + ys.length))=xs.take len ++ ys:=List.take_of_length_le (by rw [List.length_append,htk]; exact Nat.le_refl _)
          rw [htk2]
          refine RepAs.ext e1 _ _ (RepAs.append ?_ hr)
          have:=hrep.take len
          rw [List.take_take,Nat.min_eq_left hom] at this
          exact this
        · intro x hx
          rcases List.mem_append.1 hx with hx | hx
          · exact hstr x (List.mem_of_mem_take hx)
          · exact hu x hx
        · intro j x hj
          have hl1:((vs.take len).flatMap (·.cells.toList)).length=len * sz:=by
            rw [aaD (fun x hx=>hstr' x (List.mem_of_mem_take hx)),hdrop]
          rw [List.flatMap_append] at hj
          rw [List.getElem?_toArray,aeV hoc]
          by_cases hj1:j < len * sz
          · rw [if_pos (by omega)]
            rw [List.getElem?_append_left (by omega),aj9 _ hstr',List.getElem?_take,if_pos hj1] at hj
            simpa using hflat j x hj
          · rw [if_neg (by omega)]
            rw [List.getElem?_append_right (by omega),hl1] at hj
            have:=(List.getElem?_eq_some_iff.1 hj).1
            rw [if_pos (by omega),show o + j - (o + len * sz)=j - len * sz by omega]
            exact hj
        · have:=hoc
          rw [hFl] at this
          rw [hsize,Nat.add_mul]
          simp at this
          omega
      · obtain ⟨h5,h6⟩:=hrg'i _ _ _ hbb2 hb2
        obtain ⟨rfl,rfl⟩:=hfull h6
        obtain ⟨h7,c2,t2,vs2,h8,h9,h10⟩:=harr b2 st2 m2 h5
        refine ⟨by omega,c2,t2,vs2,by rw [hoth _ hbb2]; exact h8, ?_,h10⟩
        rw [List.take_append_of_le_length (by rw [htk]; exact h7),List.take_take,Nat.min_eq_left h7]
        exact RepAs.ext e1 _ _ h9
    · obtain ⟨h3,h4,h5,h6⟩:=hi.arr i2 sz2 n2 xs2 cur2 lost2 fz2 ((hother _ _ hii).1 h)
      refine ⟨h3,h4,h5,fun b2 st2 m2 hb2=>?_⟩
      have hb2':=(hrg' _ _ _ _ hii).1 hb2
      have hbb2:b2 ≠ b:=fun e=>by subst e; rw [hrg] at hb2'; simp at hb2'; exact hii hb2'.1.symm
      obtain ⟨h7,c2,t2,vs2,h8,h9,h10⟩:=h6 b2 st2 m2 hb2'
      exact ⟨h7,c2,t2,vs2,by rw [hoth _ hbb2]; exact h8,RepAs.ext e1 _ _ h9,h10⟩
  · intro b2 i2 st2 m2 h
    by_cases hii:i2=id
    · subst hii
      by_cases hbb2:b2=b
      · subst hbb2
        exact ⟨⟨_,_,_,_,_,_,aaJ _ _ _⟩,hbb,by rw [hhs]; exact hbs⟩
      · obtain ⟨h5,_⟩:=hrg'i _ _ _ hbb2 h
        obtain ⟨_,h6,h7⟩:=hi.rgS _ _ _ _ h5
        exact ⟨⟨_,_,_,_,_,_,aaJ _ _ _⟩,h6,by rw [hhs]; exact h7⟩
    · obtain ⟨⟨sz2,n2,xs2,cur2,lost2,fz2,h3⟩,h4,h5⟩:=hi.rgS b2 i2 st2 m2 ((hrg' _ _ _ _ hii).1 h)
      exact ⟨⟨_,_,_,_,_,_,(hother _ _ hii).2 h3⟩,h4,by rw [hhs]; exact h5⟩
  · intro i2 b2 h
    obtain ⟨h3,h4,h5,h6,h7⟩:=hi.bxS i2 b2 h
    have hb2:b2 ≠ b:=fun e=>by subst e; rw [hrg] at h5; simp at h5
    refine ⟨h3,by rw [hhs]; exact h4,by simp [g',hb2,h5],h6, ?_⟩
    have hii:i2 ≠ id:=fun e=>by subst e; rcases h7 with ⟨_,h7⟩ | ⟨_,h7⟩ <;> rw [hid] at h7 <;> simp at h7
    rw [aak _ _ hii]; exact h7
  · refine ⟨b,o,cap,rfl,hroom,by simp,sz,_,_,cur + 1,lost',fz,aaJ _ _ _,fun _=>⟨Nat.le_refl _,o,len + ys.length,hrg'b,by simp,by simp,fun _=>?_,fun _=>by simp [g']⟩⟩
    rw [hbs']; exact hcap
theorem append_move (hi:Inv g s w) {id len cap:Nat} {sz n:Nat} {xs:List AVal} {cur lost fz:Nat} {ys:List AVal} {os us rest:List Value} {t:TypeId} (hid:s id=some (.arr sz n xs cur lost fz))
    (hro:RepAs g s w (xs.take len) os) (hr:RepAs g s w ys us) (ho:∀ v ∈ os,v.cells.size=sz ∧ ∀ x ∈ v.cells.toList,isCell x=true) (hu:∀ v ∈ us,v.cells.size=sz ∧ ∀ x ∈ v.cells.toList,isCell x=true)
    (hlen:len≤n) (hfz:fz≤len) (hne:0 < ys.length) (hcap:len + ys.length≤cap) (hroom:cap * sz≤((os ++ us).flatMap (·.cells.toList) ++ rest).length) {lost' : Nat} (hlost:(len=n∧lost' = lost) ∨ lost' = cur + 1) :
    ∃ g',Ext g s w g' (upd s id (.arr sz (len + ys.length) (xs.take len ++ ys) (cur + 1) lost' fz)) (w.alloc (.cells ((os ++ us).flatMap (·.cells.toList) ++ rest).toArray t)) ∧
      Inv g' (upd s id (.arr sz (len + ys.length) (xs.take len ++ ys) (cur + 1) lost' fz)) (w.alloc (.cells ((os ++ us).flatMap (·.cells.toList) ++ rest).toArray t)) ∧
      RepA g' (upd s id (.arr sz (len + ys.length) (xs.take len ++ ys) (cur + 1) lost' fz)) (w.alloc (.cells ((os ++ us).flatMap (·.cells.toList) ++ rest).toArray t))
        (.arr id (cur + 1) 0 (len + ys.length) false) (.slice (some ⟨w.heap.size,0,none⟩) (len + ys.length) cap):=by
  obtain ⟨hn,hlc,hfn,harr⟩:=hi.arr id _ _ _ _ _ _ hid
  generalize hA:((os ++ us).flatMap (·.cells.toList) ++ rest).toArray=arr
  have htk:(xs.take len).length=len:=by simp; omega
  have hol:os.length=len:=by rw [RepAs.length hro,htk]
  have hul:us.length=ys.length:=RepAs.length hr
  have hall:∀ v ∈ os ++ us,v.cells.size=sz ∧ ∀ x ∈ v.cells.toList,isCell x=true:=fun v hv=>(List.mem_append.1 hv).elim (ho v) (hu v)
  have hFl:=aaD (fun v hv=>(hall v hv).1)
  have hAs:(len + ys.length) * sz≤arr.size:=by
    rw [← hA]; simp only [List.size_toArray,List.length_append,hFl,hol,hul]; omega
  have hAc:cap * sz≤arr.size:=by rw [← hA]; simpa using hroom
  generalize hB:w.heap.size=b
  have hrgn:g.rg b=none:=by
    cases hr' : g.rg b with
    | none=>rfl
    | some r=>obtain ⟨a,c,d⟩:=r; have:=(hi.rgS _ _ _ _ hr').2.2; omega
  generalize hW:w.alloc (.cells arr t)=w'
  have hblk' : w'.heap[b]? = some (.cells arr t (0,0)):=by rw [← hW, ← hB]; exact heap_alloc_new w _
  have hlt:∀ {k:Nat},k < w.heap.size→w'.heap[k]? = w.heap[k]? := fun {k} hk=>by rw [← hW]; exact aay w _ hk
  have hhs:w'.heap.size=w.heap.size + 1:=by rw [← hW]; simp
  let g' : Sg:={ g with
    rg:=fun b2=>if b2=b then some (id,0,len + ys.length) else match g.rg b2 with
      | some (i2,st2,m2)=>if i2=id∧lost' = cur + 1 then none else some (i2,st2,m2)
      | none=>none
    cb:=fun i=>if i=id then b else g.cb i }
  have hrg'b:g'.rg b=some (id,0,len + ys.length):=by simp [g']
  have hrg' : ∀ b2 i2 st2 m2,i2 ≠ id→(g'.rg b2=some (i2,st2,m2) ↔ g.rg b2=some (i2,st2,m2)):=by
    intro b2 i2 st2 m2 hne'
    by_cases hb2:b2=b
    · subst hb2
      rw [hrg'b,hrgn]
      simp; intro h; exact absurd h.symm hne'
    · simp only [g',hb2,if_false]
      cases hq:g.rg b2 with
      | none=>simp
      | some r =>
        obtain ⟨i3,st3,m3⟩:=r
        by_cases h3:i3=id
        · subst h3
          by_cases h4:lost' = cur + 1
          · simp [h4]; intro h; exact absurd h.symm hne'
          · simp [h4]
        · simp [h3]
  have hrg'i:∀ b2 st2 m2,b2 ≠ b→g'.rg b2=some (id,st2,m2)→g.rg b2=some (id,st2,m2)∧lost' ≠ cur + 1:=by
    intro b2 st2 m2 hb2 h
    simp only [g',hb2,if_false] at h
    cases hq:g.rg b2 with
    | none=>simp [hq] at h
    | some r =>
      obtain ⟨i3,st3,m3⟩:=r
      simp only [hq] at h
      split at h
      · simp at h
      · rename_i h3
        simp at h
        obtain ⟨rfl,rfl,rfl⟩:=h
        exact ⟨rfl,fun e=>h3 ⟨rfl,e⟩⟩
  have hkeep:∀ b2 st2 m2,lost' ≠ cur + 1→g.rg b2=some (id,st2,m2)→g'.rg b2=some (id,st2,m2):=by
    intro b2 st2 m2 hl' h
    have hb2:b2 ≠ b:=fun e=>by subst e; rw [hrgn] at h; simp at h
    simp [g',hb2,h,hl']
  have hother:∀ i2 x,i2 ≠ id→(upd s id (.arr sz (len + ys.length) (xs.take len ++ ys) (cur + 1) lost' fz) i2=some x ↔ s i2=some x):=fun i2 x h=>by rw [aak _ _ h]
  have hfull:lost' ≠ cur + 1→len=n∧lost' = lost:=fun h=>hlost.resolve_right h
  have hbz:∀ b2 i2 st2 m2,g.rg b2=some (i2,st2,m2)→World.bsize w' b2=World.bsize w b2:=fun b2 i2 st2 m2 h=>by
    unfold World.bsize; rw [hlt (hi.rgS _ _ _ _ h).2.2]
  have e1:Ext g s w g' (upd s id (.arr sz (len + ys.length) (xs.take len ++ ys) (cur + 1) lost' fz)) w':=by
    refine ⟨?_,fun _ _ h=>h, ?_, ?_,rfl,by rw [← hW]; exact (Below.refl _ _).alloc hi.baseS _,fun _ _ _ h=>h,rfl,fun k hk=>⟨hlt (hi.prS k hk).1,fun _ h=>h⟩⟩
    · intro b' o' x h hx
      exact ⟨h,by rw [World.cell?_of_block (hlt (hi.immS _ _ h))]; exact hx⟩
    · rintro i2 ep2 off2 len2 capd2 b2 o2 cap2 ⟨sz2,n2,xs2,cur2,lost2,fz2,h1,h3⟩
      by_cases hii:i2=id
      · subst hii
        rw [hid] at h1
        simp at h1
        obtain ⟨rfl,rfl,rfl,rfl,rfl,rfl⟩:=h1
        refine ⟨_,_,_,_,_,_,aaJ _ _ _,fun hl2=>?_⟩
        by_cases hl' : lost' = cur + 1
        · have:lost≤ep2:=by omega
          obtain ⟨h4,_⟩:=h3 this
          omega
        · obtain ⟨rfl,rfl⟩:=hfull hl'
          obtain ⟨h4,st2,m2,h5,h6,h7,h8,h9⟩:=h3 hl2
          exact ⟨by omega,st2,m2,hkeep _ _ _ hl' h5,h6,h7,fun hcd=>by rw [hbz _ _ _ _ h5]; exact h8 hcd,fun he=>by omega⟩
      · refine ⟨_,_,_,_,_,_,(hother _ _ hii).2 h1,fun hl2=>?_⟩
        obtain ⟨h4,st2,m2,h5,h6,h7,h8,h9⟩:=h3 hl2
        exact ⟨h4,st2,m2,(hrg' _ _ _ _ hii).2 h5,h6,h7,fun hcd=>by rw [hbz _ _ _ _ h5]; exact h8 hcd,fun he=>by simp only [g',hii,if_false]; exact h9 he⟩
    · rintro i2 ep2 j2 off2 b2 o2 ⟨sz2,n2,xs2,cur2,lost2,fz2,h1,h3⟩
      by_cases hii:i2=id
      · subst hii
        rw [hid] at h1
        simp at h1
        obtain ⟨rfl,rfl,rfl,rfl,rfl,rfl⟩:=h1
        refine ⟨_,_,_,_,_,_,aaJ _ _ _,fun hl2=>?_⟩
        by_cases hl' : lost' = cur + 1
        · have:lost≤ep2:=by omega
          obtain ⟨h4,_⟩:=h3 this
          omega
        · obtain ⟨rfl,rfl⟩:=hfull hl'
          obtain ⟨h4,st2,m2,h5,h6,h7,h8⟩:=h3 hl2
          exact ⟨by omega,st2,m2,hkeep _ _ _ hl' h5,h6,h7,fun he=>by omega⟩
      · refine ⟨_,_,_,_,_,_,(hother _ _ hii).2 h1,fun hl2=>?_⟩
        obtain ⟨h4,st2,m2,h5,h6,h7,h8⟩:=h3 hl2
        exact ⟨h4,st2,m2,(hrg' _ _ _ _ hii).2 h5,h6,h7,fun he=>by simp only [g',hii,if_false]; exact h8 he⟩
  refine ⟨g',e1,⟨?_, ?_, ?_, ?_,hi.inj,fun b' o' h=>by rw [hhs]; have:=hi.immS b' o' h; omega,by rw [hhs]; have:=hi.baseS; show g.base≤_; omega,
    ad2 hi.ho e1 (fun i h hh=>upd_ho hh (by simp)) (fun i b' hb' _=>hlt (hi.bxS _ _ hb').2.1),hi.prS.step (by omega) rfl (fun b2 hpb=>.inl (by have h2:=(hi.prS b2 hpb).2.1; have hne:b2 ≠ b:=(by have:=(hi.prS b2 hpb).1; omega); simp [g',hne,h2])) (fun _ _ _ h=>⟨_,h⟩)⟩, ?_⟩
  · intro i2 ds h
    have hii:i2 ≠ id:=fun e=>by subst e; simp at h
    obtain ⟨b2,c2,t2,h3,h4,h5,h6⟩:=hi.box i2 ds ((hother _ _ hii).1 h)
    exact ⟨b2,c2,t2,h3,by rw [hlt (hi.bxS _ _ h3).2.1]; exact h4,RepAs.ext e1 _ _ h5,h6⟩
  · intro i2 sz2 n2 xs2 cur2 lost2 fz2 h
    by_cases hii:i2=id
    · subst hii
      simp at h
      obtain ⟨rfl,rfl,rfl,rfl,rfl,rfl⟩:=h
      refine ⟨by simp [htk],by rcases hlost with ⟨_,rfl⟩ | rfl <;> omega,by omega,fun b2 st2 m2 hb2=>?_⟩
      by_cases hbb2:b2=b
      · subst hbb2
        rw [hrg'b] at hb2
        simp at hb2
        obtain ⟨rfl,rfl⟩:=hb2
        refine ⟨Nat.le_refl _,_,t,os ++ us,hblk', ?_,hall, ?_, ?_,by omega⟩
        · have htk2:((xs.take len ++ ys).take (len + ys.length))=xs.take len ++ ys:=List.take_of_length_le (by rw [List.length_append,htk]; exact Nat.le_refl _)
          rw [htk2]
          exact RepAs.ext e1 _ _ (RepAs.append hro hr)
        · intro j x hj
          rw [← hA,Nat.zero_add,List.getElem?_toArray,List.getElem?_append_left (List.getElem?_eq_some_iff.1 hj).1]
          exact hj
        · intro o' h
          have:=hi.immS _ _ h
          omega
      · obtain ⟨h5,h6⟩:=hrg'i _ _ _ hbb2 hb2
        obtain ⟨rfl,rfl⟩:=hfull h6
        obtain ⟨h7,c2,t2,vs2,h8,h9,h10⟩:=harr b2 st2 m2 h5
        refine ⟨by omega,c2,t2,vs2,by rw [hlt (hi.rgS _ _ _ _ h5).2.2]; exact h8, ?_,h10⟩
        rw [List.take_append_of_le_length (by rw [htk]; exact h7),List.take_take,Nat.min_eq_left h7]
        exact RepAs.ext e1 _ _ h9
    · obtain ⟨h3,h4,h5,h6⟩:=hi.arr i2 sz2 n2 xs2 cur2 lost2 fz2 ((hother _ _ hii).1 h)
      refine ⟨h3,h4,h5,fun b2 st2 m2 hb2=>?_⟩
      have hb2':=(hrg' _ _ _ _ hii).1 hb2
      obtain ⟨h7,c2,t2,vs2,h8,h9,h10⟩:=h6 b2 st2 m2 hb2'
      exact ⟨h7,c2,t2,vs2,by rw [hlt (hi.rgS _ _ _ _ hb2').2.2]; exact h8,RepAs.ext e1 _ _ h9,h10⟩
  · intro b2 i2 st2 m2 h
    by_cases hii:i2=id
    · subst hii
      by_cases hbb2:b2=b
      · subst hbb2
        exact ⟨⟨_,_,_,_,_,_,aaJ _ _ _⟩,by rw [← hB]; exact hi.baseS,by omega⟩
      · obtain ⟨h5,_⟩:=hrg'i _ _ _ hbb2 h
        obtain ⟨_,h6,h7⟩:=hi.rgS _ _ _ _ h5
        exact ⟨⟨_,_,_,_,_,_,aaJ _ _ _⟩,h6,by omega⟩
    · obtain ⟨⟨sz2,n2,xs2,cur2,lost2,fz2,h3⟩,h4,h5⟩:=hi.rgS b2 i2 st2 m2 ((hrg' _ _ _ _ hii).1 h)
      exact ⟨⟨_,_,_,_,_,_,(hother _ _ hii).2 h3⟩,h4,by omega⟩
  · intro i2 b2 h
    obtain ⟨h3,h4,h5,h6,h7⟩:=hi.bxS i2 b2 h
    have hb2:b2 ≠ b:=by omega
    refine ⟨h3,by omega,by simp [g',hb2,h5],h6, ?_⟩
    have hii:i2 ≠ id:=fun e=>by subst e; rcases h7 with ⟨_,h7⟩ | ⟨_,h7⟩ <;> rw [hid] at h7 <;> simp at h7
    rw [aak _ _ hii]; exact h7
  · refine ⟨b,0,cap,rfl,hcap,by simp,sz,_,_,cur + 1,lost',fz,aaJ _ _ _,fun _=>⟨Nat.le_refl _,0,len + ys.length,hrg'b,by simp,by simp,fun _=>?_,fun _=>by simp [g']⟩⟩
    unfold World.bsize
    rw [hblk']
    simpa using hAc
end
end Go.Proofs.YtdnbnpknpejpdaaGreatDoor.Sw
namespace Go.Proofs.YtdnbnpknpejpdaaGreatDoor.Sw
open Go.RowKit
section
variable {P:Program} {g:Sg} {s:Sto} {w:World}
theorem alloc_run {S:St} (hs:∀ id,s id=S.get id) (hi:Inv g s w) {t b:Nat} {e:Eff} (h:aiZ P b t S=some e) :
    ∃ u g' w',(Instr.alloc t true (.tuple #[])).run P w = .ok u w' ∧ Ext g s w g' (e.wr.foldl (fun s x=>upd s x.1 x.2) s) w' ∧
      Inv g' (e.wr.foldl (fun s x=>upd s x.1 x.2) s) w' ∧ RepA g' (e.wr.foldl (fun s x=>upd s x.1 x.2) s) w' e.v u:=by
  unfold aiZ at h
  split at h
  · rename_i z gg n hz hg hn
    split at h <;> simp at h
    rename_i cs hcs hb
    subst h
    obtain ⟨v,h1,h2⟩:=abF (P:=P) (w:=w) hz
    obtain ⟨h3,h4,h5,_,_⟩:=abO (s:=s) (x:=.p z) (abv (I:=g.imm) (w:=w) h2) hcs
    obtain ⟨g',h6,h7,h8⟩:=new_box hi ((hs b).trans hb) (t:=t) h3 h5
    refine ⟨_,g',_, ?_,h6,h7,h8⟩
    simp [Instr.alloc,h1,newVar,newRow]
  · simp at h
theorem box_run {S:St} (hs:∀ id,s id=S.get id) (hi:Inv g s w) {t b:Nat} {x:AVal} {v:Value} {e:Eff} (hx:RepA g s w x v) (h:boxOp P b t x S=some e) :
    ∃ u g' w',(Instr.box t v).run P w = .ok u w' ∧ Ext g s w g' (e.wr.foldl (fun s x=>upd s x.1 x.2) s) w' ∧
      Inv g' (e.wr.foldl (fun s x=>upd s x.1 x.2) s) w' ∧ RepA g' (e.wr.foldl (fun s x=>upd s x.1 x.2) s) w' e.v u:=by
  unfold boxOp at h
  split at h
  · rename_i gg n hg hn
    split at h <;> simp at h
    rename_i cs hcs hb
    subst h
    obtain ⟨h3,h4,h5,_,_⟩:=abO hx hcs
    obtain ⟨g',h6,h7,h8⟩:=new_box hi ((hs b).trans hb) (t:=t) h3 h5
    refine ⟨_,g',_, ?_,h6,h7,h8⟩
    simp [Instr.box,newVar,newRow]
  · simp at h
theorem aeA {gg:Bool} {n:Nat}:∀ {xs:List AVal} {vs:List Value},RepAs g s w xs vs→aa7 gg n xs=true → ∀ v ∈ vs,v.cells.size=n ∧ ∀ x ∈ v.cells.toList,isCell x=true
  | [],vs,hr,_,v,hv=>by rw [hr] at hv; simp at hv
  | x :: xs,vs,hr,h,v,hv=>by
    obtain ⟨u,us,rfl,h1,h2⟩:=hr
    simp only [aa7] at h
    split at h
    · rename_i cs hcs
      obtain ⟨_,h3,h4,_,_⟩:=abO h1 hcs
      cases hv with
      | head=>exact ⟨h3,h4⟩
      | tail _ hv=>exact aeA h2 h v hv
    · simp at h
theorem ahl {S:St} (hs:∀ id,s id=S.get id) (hi:Inv g s w) {id ep off len b o cap:Nat} {capd:Bool} {xs:List AVal} (hv:ViewOk g s w id ep off len capd b o cap) (h:viewed S id ep off len=some xs) :
    ∃ vs,RepAs g s w xs vs∧vs.length=len∧aeT w b o (vs.flatMap (·.cells.toList)) ∧
      ∀ sz n xs cur lost fz,S.get id=some (.arr sz n xs cur lost fz) → ∀ v ∈ vs,v.cells.size=sz ∧ ∀ x ∈ v.cells.toList,isCell x=true:=by
  unfold viewed at h
  split at h
  · rename_i sz n ys cur lost fz hid
    split at h <;> simp at h
    rename_i hb1 hb2
    subst h
    have hle:=Nat.le_of_ble_eq_true hb1
    obtain ⟨sz2,n2,xs2,cur2,lost2,fz2,h1,h2⟩:=hv
    have h1':=h1
    rw [hs id,hid] at h1
    simp at h1
    obtain ⟨rfl,rfl,rfl,rfl,rfl,rfl⟩:=h1
    obtain ⟨_,st,m,h3,h4,h5,_⟩:=h2 hle
    obtain ⟨hn,_,_,harr⟩:=hi.arr id _ _ _ _ _ _ h1'
    obtain ⟨hm,c,t,vs,h6,h7,h8,h9,_⟩:=harr b st m h3
    have hvl:vs.length=m:=by rw [RepAs.length h7]; simp; omega
    refine ⟨(vs.drop off).take len, ?_,by simp; omega, ?_,fun _ _ _ _ _ _ e v hv=>by
      rw [hid] at e; simp at e
      obtain ⟨rfl,_⟩:=e
      exact h8 v (List.mem_of_mem_drop (List.mem_of_mem_take hv))⟩
    · have:=(h7.drop off).take len
      rw [List.drop_take,List.take_take,Nat.min_eq_left (by omega)] at this
      exact this
    · intro i c' hc
      rw [aa4 h6]
      have hsz:∀ x ∈ vs,x.cells.size=sz:=fun x hx=>(h8 x hx).1
      rw [aj9 _ (fun x hx=>hsz x (List.mem_of_mem_drop hx)),agQ _ hsz,List.getElem?_take] at hc
      split at hc
      · rw [List.getElem?_drop] at hc
        rw [h4,show st + off * sz + i=st + (off * sz + i) by omega]
        exact h9 _ _ hc
      · simp at hc
  · simp at h
theorem mapInt_rep:∀ (l:List UInt8),RepAs g s w ((l.map UInt8.toNat).map fun b=>AVal.p (.int .u8 (Int.ofNat b))) (l.map fun b=>Value.int .u8 b.toNat)
  | []=>rfl
  | _ :: l=>⟨_,_,rfl,rfl,mapInt_rep l⟩
theorem source_run {S:St} (hs:∀ id,s id=S.get id) (hi:Inv g s w) {x:AVal} {v:Value} {ys:List AVal} {rd:List Nat} {gg:Bool} {sz:Nat} (hx:RepA g s w x v)
    (h:source S x=some (ys,rd)) (ha:aa7 gg sz ys=true) :
    ∃ us,RepAs g s w ys us∧(Builtin.lenOf v).run P w = .ok ys.length w∧(Builtin.firstCells sz ys.length v).run P w = .ok (us.flatMap (·.cells.toList)).toArray w ∧
      (Builtin.firstCells sz ys.length v).run P w.drew = .ok (us.flatMap (·.cells.toList)).toArray w.drew:=by
  have fin:∀ {b o cap:Nat} {us:List Value},v = .slice (some ⟨b,o,none⟩) ys.length cap→RepAs g s w ys us→aeT w b o (us.flatMap (·.cells.toList)) →
      ∃ us,RepAs g s w ys us∧(Builtin.lenOf v).run P w = .ok ys.length w∧(Builtin.firstCells sz ys.length v).run P w = .ok (us.flatMap (·.cells.toList)).toArray w ∧
      (Builtin.firstCells sz ys.length v).run P w.drew = .ok (us.flatMap (·.cells.toList)).toArray w.drew:=by
    intro b o cap us hv hr hc
    subst hv
    have hl:(us.flatMap (·.cells.toList)).length=ys.length * sz:=by
      rw [aaD (fun y hy=>(aeA hr ha y hy).1),RepAs.length hr]
    exact ⟨us,hr,by simp [Builtin.lenOf],run_firstCells_some w sz _ _ _ _ _ hl (fun j c hj=>by rw [Addr.add_lit]; exact hc j c hj),
      run_firstCells_some w.drew sz _ _ _ _ _ hl (fun j c hj=>by rw [Addr.add_lit]; exact hc j c hj)⟩
  have empt:∀ {a:Addr} {cap:Nat}, ∃ us,RepAs g s w ([].map AVal.p) us∧(Builtin.lenOf (.slice (some a) 0 cap)).run P w = .ok (([]:List PVal).map AVal.p).length w∧(Builtin.firstCells sz (([]:List PVal).map AVal.p).length (.slice (some a) 0 cap)).run P w = .ok (us.flatMap (·.cells.toList)).toArray w ∧
      (Builtin.firstCells sz (([]:List PVal).map AVal.p).length (.slice (some a) 0 cap)).run P w.drew = .ok (us.flatMap (·.cells.toList)).toArray w.drew:=fun {a cap} =>
    ⟨[],rfl,by simp [Builtin.lenOf],run_firstCells_some w sz _ _ _ _ _ (by simp) (fun j c hj=>by simp at hj),run_firstCells_some w.drew sz _ _ _ _ _ (by simp) (fun j c hj=>by simp at hj)⟩
  unfold source at h
  split at h
  · simp at h
    obtain ⟨rfl,rfl⟩:=h
    have e:v = .slice none 0 0:=hx
    subst e
    exact ⟨[],rfl,by simp [Builtin.lenOf],by simp [Builtin.firstCells],by simp [Builtin.firstCells]⟩
  · simp at h
    obtain ⟨rfl,rfl⟩:=h
    rcases hx with ⟨b,o,cap,sz',vs,rfl,_,h1,_,h2⟩ | ⟨rfl,a,cap,rfl⟩
    · exact fin (cap:=cap) (by rw [List.length_map]) (aaU h1) h2.in
    · exact empt
  · simp at h
    obtain ⟨rfl,rfl⟩:=h
    rcases hx with ⟨b,o,sz',vs,rfl,h1,_,h2⟩ | ⟨rfl,a,rfl⟩
    · exact fin (by rw [List.length_map]) (aaU h1) h2.in
    · exact empt
  · simp only [Option.some.injEq,Prod.mk.injEq] at h
    obtain ⟨rfl,rfl⟩:=h
    obtain ⟨t,rfl,rfl⟩:=hx
    have e1:((t.data.toList.map UInt8.toNat).map fun b=>AVal.p (.int .u8 (Int.ofNat b))).length=t.size:=by simp
    have e2:∀ l:List UInt8,((l.map fun b=>Value.int .u8 (b.toNat:Int)).flatMap (·.cells.toList))=l.map fun b=>Value.int .u8 (b.toNat:Int):=by
      intro l; induction l with
      | nil=>rfl
      | cons a l ih=>simp only [List.map_cons,List.flatMap_cons,ih]; rfl
    have e3:(t.extract 0 t.size)=t:=by
      have:t.size=t.data.size:=rfl
      cases t with
      | mk d=>simp [ByteArray.extract,ByteArray.copySlice,ByteArray.size]
    refine ⟨_,mapInt_rep t.data.toList, ?_, ?_, ?_⟩
    · rw [e1]; simp [Builtin.lenOf]
    · rw [e1,e2]
      simp only [Builtin.firstCells,Sem.run_pure,e3]
      congr 1
      apply Array.ext'; simp
    · rw [e1,e2]
      simp only [Builtin.firstCells,Sem.run_pure,e3]
      congr 1
      apply Array.ext'; simp
  · rename_i id ep off len c
    split at h <;> simp at h
    rename_i xs hv
    obtain ⟨rfl,rfl⟩:=h
    obtain ⟨b,o,cap,rfl,_,_,h1⟩:=hx
    obtain ⟨vs,h2,h3,h4,_⟩:=ahl hs hi h1 hv
    exact fin (by rw [← h3,RepAs.length h2]) h2 h4
  · simp at h
theorem akt {e sz:Nat} {gg:Bool} (h:zeroOk P e gg sz=true):∃ i v,P.info? e=some i∧i.zero=some v∧v.cells.size=sz:=by
  unfold zeroOk at h
  split at h
  · rename_i z hz
    split at h
    · rename_i cs hcs
      unfold zeroT at hz
      split at hz
      · rename_i i hi
        split at hz
        · rename_i v hv
          obtain ⟨_,h3,_⟩:=abO (g:={ imm:=fun _ _=>False,bx:=fun _=>none,rg:=fun _=>none,cb:=fun _=>0,base:=0,pr:=fun _=>False }) (s:=fun _=>none) (w:=default) (x:=.p z)
            (abv (I:=fun _ _=>False) (w:=default) hz) hcs
          exact ⟨i,v,hi,hv,h3⟩
        · simp at hz
      · simp at hz
    · simp at h
  · simp at h
theorem aiB {t:Nat} (h:notInt P t=true):∃ d,P.underlying t=some d∧(∀ k,d ≠ .int k):=by
  unfold notInt at h
  split at h <;> simp at h
  rename_i d hni hu
  exact ⟨d,hu,fun k e=>hni k e⟩
theorem append_in {t t2 ty e sz n sLen cap:Nat} {b o:Nat} {c:Array Value} {et:TypeId} {v:Value} {us:List Value} (ht:P.underlying t=some (.slice e)) (ht2:notInt P t2=true) (hsz:szT P e=some sz)
    (h1:(Builtin.lenOf v).run P w = .ok n w) (h2:(Builtin.firstCells sz n v).run P w = .ok us.toArray w) (hc:∀ x ∈ us,isCell x=true)
    (hroom:sLen + n≤cap) (hblk:w.heap[b]? = some (.cells c et (0,0))) (hle:o + sLen * sz + us.length≤c.size) :
    (Builtin.append_ #[t,t2] ty #[.slice (some ⟨b,o,none⟩) sLen cap,v]).run P w = .ok (.slice (some ⟨b,o,none⟩) (sLen + n) cap) (w.setRow b (splice c.toList (o + sLen * sz) us).toArray):=by
  obtain ⟨d,hd,hni⟩:=aiB ht2
  have hst:=run_storeCells_at P b (o + sLen * sz) et us 0 c w hblk (by simpa using hle) (fun x hx=>by rw [← apu]; exact hc x hx)
  simp only [Nat.add_zero] at hst
  have hst' : (storeCells ⟨b,o + sLen * sz,none⟩ us).run P w = .ok () (w.setRow b (splice c.toList (o + sLen * sz) us).toArray):=hst
  simp [Builtin.append_,aaa ht,aaw hsz,aaa hd,h1,h2,hroom,Addr.add_lit,hst']
theorem amy {α:Type} (l:List α):∀ (n i:Nat),i < n * l.length→((List.replicate n l).flatten)[i]? = l[i % l.length]?
  | 0,i,h=>by simp at h
  | n + 1,i,h=>by
    rw [List.replicate_succ,List.flatten_cons]
    by_cases hi:i < l.length
    · rw [List.getElem?_append_left hi,Nat.mod_eq_of_lt hi]
    · have hi:l.length≤i:=by omega
      rw [List.getElem?_append_right hi,amy l n (i - l.length) (by rw [Nat.add_mul] at h; omega), ← Nat.mod_eq_sub_mod hi]
theorem ah2 (cs:Array Value) (n:Nat):(Builtin.zeroCells cs n).toList=(List.replicate n cs.toList).flatten:=by
  apply List.ext_getElem?
  intro i
  by_cases h:i < n * cs.size
  · rw [amy _ _ _ (by simpa using h)]
    have hp:0 < cs.size:=by
      rcases Nat.eq_zero_or_pos cs.size with e | e
      · rw [e] at h; simp at h
      · exact e
    have hm:=Nat.mod_lt i hp
    simp only [Builtin.zeroCells,Array.toList_map,Array.toList_range,List.getElem?_map,List.getElem?_range h,Option.map_some,Array.length_toList,Array.getElem?_toList]
    rw [getElem!_pos cs _ hm,Array.getElem?_eq_getElem hm]
  · rw [List.getElem?_eq_none (by simp [Builtin.zeroCells]; omega),List.getElem?_eq_none (by simp; omega)]
theorem append_new {t t2 ty e sz n sLen cap by_:Nat} {base:Option Addr} {gg:Bool} {v:Value} {os us:List Value} (ht:P.underlying t=some (.slice e)) (ht2:notInt P t2=true) (hsz:szT P e=some sz)
    (hby:bytesT P e=some by_) (hzo:zeroOk P e gg sz=true)
    (h1:(Builtin.lenOf v).run P w = .ok n w) (h2:(Builtin.firstCells sz n v).run P w.drew = .ok us.toArray w.drew)
    (h3:(Builtin.firstCells sz sLen (.slice base sLen cap)).run P w.drew = .ok os.toArray w.drew)
    (hroom:cap < sLen + n) (hbound:(sLen + n) * by_≤1099511627776) (hn:sLen + n≤4611686018427387904) :
    ∃ cap' rest,sLen + n≤cap' ∧ rest.length=(cap' - (sLen + n)) * sz∧(Builtin.append_ #[t,t2] ty #[.slice base sLen cap,v]).run P w =
      .ok (.slice (some ⟨w.heap.size,0,none⟩) (sLen + n) cap') (w.drew.alloc (.cells (os ++ us ++ rest).toArray e)):=by
  obtain ⟨d,hd,hni⟩:=aiB ht2
  obtain ⟨i,zv,hi,hzv,hzs⟩:=akt hzo
  have hib:i.bytes=by_:=by simp [bytesT,hi] at hby; exact hby
  refine ⟨grownCap w (sLen + n) cap e,(Builtin.zeroCells zv.cells (grownCap w (sLen + n) cap e - (sLen + n))).toList,grownCap_ge _ _ _ _, ?_, ?_⟩
  · rw [Array.length_toList,size_zeroCells,hzs]
  · have hne:¬ (sLen + n≤cap):=by omega
    have h63:¬ (9223372036854775807 < ((sLen:Int) + (n:Int))):=by omega
    have hfit:Builtin.nextslicecap (sLen + n) cap * i.bytes≤281474976710656:=growslice_fits hroom (by rw [hib]; omega)
    have h48:¬ (281474976710656 < Builtin.nextslicecap (sLen + n) cap * i.bytes):=by omega
    simp [Builtin.append_,aaa ht,aaw hsz,aaa hd,h1,hne,h63,h48,Go.typeInfo,Go.zeroValue,hi,hzv,Question.forced,h2,h3,newRow,grownCap]
    congr 2
    apply Array.ext'
    simp
end
end Go.Proofs.YtdnbnpknpejpdaaGreatDoor.Sw
namespace Go.Proofs.YtdnbnpknpejpdaaGreatDoor.Sw
open Go.RowKit
section
variable {P:Program} {g:Sg} {s:Sto} {w:World}
def Yields (g:Sg) (s:Sto) (w:World) (e:Eff) (r:Result Value):Prop :=
  ∃ u g' w',r = .ok u w' ∧ Ext g s w g' (e.wr.foldl (fun s x=>upd s x.1 x.2) s) w' ∧
    Inv g' (e.wr.foldl (fun s x=>upd s x.1 x.2) s) w' ∧ RepA g' (e.wr.foldl (fun s x=>upd s x.1 x.2) s) w' e.v u
theorem Yields.same (hi:Inv g s w) {x:AVal} {v:Value} {rd:List Nat} (hx:RepA g s w x v) {r:Result Value} (hr:r = .ok v w):Yields g s w ⟨x,rd,[]⟩ r :=
  ⟨v,g,w,hr, .refl _ _ _,hi,hx⟩
theorem ac7 {t t2 ty e sz sLen cap:Nat} {base:Option Addr} {v:Value} (ht:P.underlying t=some (.slice e)) (ht2:notInt P t2=true) (hsz:szT P e=some sz)
    (h1:(Builtin.lenOf v).run P w = .ok 0 w) (h2:(Builtin.firstCells sz 0 v).run P w = .ok #[] w) (hle:sLen≤cap) :
    (Builtin.append_ #[t,t2] ty #[.slice base sLen cap,v]).run P w = .ok (.slice base sLen cap) w:=by
  obtain ⟨d,hd,hni⟩:=aiB ht2
  cases base <;> simp [Builtin.append_,aaa ht,aaw hsz,aaa hd,h1,h2,hle,storeCells]
theorem aex (hi:Inv g s w) {t t2 ty e sz cap by_ b:Nat} {base:Option Addr} {gg:Bool} {v:Value} {zs ys:List AVal} {vs us:List Value} {rd:List Nat}
    (ht:P.underlying t=some (.slice e)) (ht2:notInt P t2=true) (hsz:szT P e=some sz)
    (hby:bytesT P e=some by_) (hzo:zeroOk P e gg sz=true) (hb0:0 < by_) (hz:RepAs g s w zs vs) (hr:RepAs g s w ys us)
    (hall:∀ v ∈ vs ++ us,v.cells.size=sz ∧ ∀ x ∈ v.cells.toList,isCell x=true)
    (h1:(Builtin.lenOf v).run P w = .ok ys.length w) (h2:(Builtin.firstCells sz ys.length v).run P w.drew = .ok (us.flatMap (·.cells.toList)).toArray w.drew)
    (h3:(Builtin.firstCells sz zs.length (.slice base zs.length cap)).run P w.drew = .ok (vs.flatMap (·.cells.toList)).toArray w.drew)
    (hcap:cap=zs.length) (hne:0 < ys.length) (hbound:(zs.length + ys.length) * by_≤1099511627776) (hb:s b=none) :
    Yields g s w ⟨.arr b 0 0 (zs.length + ys.length) false,rd,[(b, .arr sz (zs.length + ys.length) (zs ++ ys) 0 0 0)]⟩
      ((Builtin.append_ #[t,t2] ty #[.slice base zs.length cap,v]).run P w):=by
  have hn:zs.length + ys.length≤1099511627776:=Nat.le_trans (Nat.le_mul_of_pos_right _ hb0) hbound
  obtain ⟨cap',rest,k1,k2,k3⟩:=append_new (ty:=ty) (base:=base) (cap:=cap) ht ht2 hsz hby hzo h1 h2 h3 (by omega) hbound (by omega)
  have hR:RepAs g s w.drew (zs ++ ys) (vs ++ us):=RepAs.ext (Ext.drew g s w) _ _ (RepAs.append hz hr)
  have hF:=aaD (fun v hv=>(hall v hv).1)
  have hL:(vs ++ us).length=zs.length + ys.length:=by rw [RepAs.length hR]; simp
  obtain ⟨g',e1,e2,e3⟩:=new_arr (Inv.drew hi) (id:=b) hb (xs:=zs ++ ys) (vs:=vs ++ us) (rest:=rest) (t:=e) (cap:=cap') (capd:=false) hR hall (by simpa using k1) (by simp) (fun _=>by
    rw [List.length_append,hF,hL,k2, ← Nat.add_mul,Nat.add_sub_cancel' k1]; exact Nat.le_refl _)
  rw [List.flatMap_append] at e1 e2 e3
  rw [List.length_append] at e1 e2 e3
  exact ⟨_,g',_,k3,(Ext.drew g s w).trans e1,e2,e3⟩
theorem mapP_cells {gg:Bool} {sz:Nat} {xs:List PVal} {vs:List Value} (h:RepPs g.imm w xs vs) (ha:aa7 gg sz (xs.map .p)=true) :
    ∀ v ∈ vs,v.cells.size=sz ∧ ∀ x ∈ v.cells.toList,isCell x=true:=aeA (aaU (s:=fun _=>none) h) ha
theorem run_first_in {b o n cap sz:Nat} {vs:List Value} (hc:aeT w b o (vs.flatMap (·.cells.toList))) (hl:(vs.flatMap (·.cells.toList)).length=n * sz) :
    (Builtin.firstCells sz n (.slice (some ⟨b,o,none⟩) n cap)).run P w.drew = .ok (vs.flatMap (·.cells.toList)).toArray w.drew :=
  run_firstCells_some w.drew sz _ _ _ _ _ hl (fun j c hj=>by rw [Addr.add_lit]; exact hc j c hj)
theorem growOp_run {S:St} (hs:∀ id,s id=S.get id) (hi:Inv g s w) {t t2 ty b:Nat} {k2:IntKind} {x y:AVal} {vx vy:Value} {e:Eff} (hx:RepA g s w x vx) (hy:RepA g s w y vy)
    (ht2:P.underlying t2=some (.int k2)) (h:growOp P b t x y S=some e):Yields g s w e ((Builtin.append_ #[t,t2] ty #[vx,vy]).run P w):=by
  unfold growOp at h
  split at h <;> try (simp at h; done)
  rename_i et n hel
  split at h <;> try (simp at h; done)
  rename_i sz by_ gg z hsz hby hg hz
  split at h <;> try (simp at h; done)
  rename_i hck hbd hfree
  simp at h
  subst h
  have ht:P.underlying t=some (.slice et):=by
    unfold elemT at hel
    split at hel <;> simp at hel
    subst hel; assumption
  simp only [Bool.and_eq_true] at hck
  obtain ⟨hzo,hb0⟩:=hck
  have hb0:0 < by_:=by
    have:Nat.ble (0 + 1) by_=true:=hb0
    exact Nat.le_of_ble_eq_true this
  have hbd:=Nat.le_of_ble_eq_true hbd
  have hx:vx = .slice none 0 0:=hx
  have hy:vy = .int .i64 (Int.ofNat (n + 1)):=hy
  subst hx; subst hy
  have hn:n + 1≤1099511627776:=Nat.le_trans (Nat.le_mul_of_pos_right _ hb0) hbd
  obtain ⟨i,zv,hin,hzv,hzs⟩:=akt hzo
  have hib:i.bytes=by_:=by simp [bytesT,hin] at hby; exact hby
  have hzz:ofValue zv=some z:=by
    simp only [zeroT,hin,hzv] at hz
    exact hz
  obtain ⟨zc,hzc⟩:∃ cs,aa3 gg sz (.p z)=some cs:=by
    unfold zeroOk at hzo
    rw [hz] at hzo
    simp only at hzo
    split at hzo
    · exact ⟨_,by assumption⟩
    · simp at hzo
  have hzr:RepP g.imm w z zv:=abv hzz
  obtain ⟨_,c2,c3,_,_⟩:=abO (g:=g) (s:=s) (w:=w) (x:=.p z) (v:=zv) hzr hzc
  have hrun:∀ m:Nat,0 < m→m * by_≤1099511627776→m≤1099511627776→(Builtin.append_ #[t,t2] ty #[.slice none 0 0, .int .i64 (m:Int)]).run P w =
      .ok (.slice (some ⟨w.heap.size,0,none⟩) m (grownCap w m 0 et))
        (w.drew.alloc (.cells ((List.replicate m zv.cells.toList).flatten ++ (Builtin.zeroCells zv.cells (grownCap w m 0 et - m)).toList).toArray et)):=by
    intro m hm0 hbd hm
    have hfit:Builtin.nextslicecap m 0 * i.bytes≤281474976710656:=growslice_fits (by omega) (by rw [hib]; omega)
    have h48:¬ (281474976710656 < Builtin.nextslicecap m 0 * i.bytes):=by omega
    have hw:IntKind.i64.wrap (m:Int)=(m:Int):=by
      rw [IntKind.wrap_i64]
      omega
    have h63:¬ (9223372036854775807 < (m:Int)):=by omega
    have hnb:¬ (281474976710656 < (m:Int) * (i.bytes:Int)):=by
      rw [hib, ← Int.natCast_mul]
      omega
    have hneg:¬ ((m:Int) < 0):=by omega
    have hne:¬ (m=0):=by omega
    have hall:(Builtin.zeroCells zv.cells m).toList=(List.replicate m zv.cells.toList).flatten:=ah2 _ _
    by_cases hs0:sz=0
    · have hz0:zv.cells = #[]:=Array.eq_empty_of_size_eq_zero (by rw [hzs]; exact hs0)
      have e1:(List.replicate m zv.cells.toList).flatten = []:=by rw [hz0]; simp
      rw [e1]
      simp [Builtin.append_,aaa ht,aaw hsz,aaa ht2,asInt,asIntOf,hw,hneg,Go.typeInfo,hin,hnb,hs0,h63,h48,hne,Question.forced,Builtin.firstCells,newRow,grownCap,Go.zeroValue,hzv]
    · have hm' : ¬ (m * sz=0):=fun h=>(Nat.mul_eq_zero.1 h).elim hne hs0
      simp [Builtin.append_,hm',aaa ht,aaw hsz,aaa ht2,asInt,asIntOf,hw,hneg,Go.typeInfo,hin,hnb,h63,h48,hne,Question.forced,Builtin.firstCells,newRow,grownCap,Go.zeroValue,hzv]
      congr 2
      apply Array.ext'
      simp [hall]
  have hR:RepAs g s w.drew (List.replicate (n + 1) (.p z)) (List.replicate (n + 1) zv):=by
    have h0:∀ k,RepAs g s w.drew (List.replicate k (.p z)) (List.replicate k zv):=by
      intro k
      induction k with
      | zero=>rfl
      | succ k ih=>exact ⟨zv,_,rfl,RepA.ext (Ext.drew g s w) (.p z) zv hzr,ih⟩
    exact h0 _
  have hcells:∀ v ∈ List.replicate (n + 1) zv,v.cells.size=sz ∧ ∀ x ∈ v.cells.toList,isCell x=true:=by
    intro v hv
    rw [List.eq_of_mem_replicate hv]
    exact ⟨c2,c3⟩
  obtain ⟨g',e1,e2,e3⟩:=new_arr (Inv.drew hi) (id:=b) ((hs b).trans hfree) (xs:=List.replicate (n + 1) (.p z)) (vs:=List.replicate (n + 1) zv)
    (rest:=(Builtin.zeroCells zv.cells (grownCap w (n + 1) 0 et - (n + 1))).toList) (t:=et) (cap:=grownCap w (n + 1) 0 et) (capd:=false) hR hcells
    (by rw [List.length_replicate]; exact grownCap_ge _ _ _ _) (by simp) (fun _=>by
      rw [List.length_append,aaD (fun v hv=>(hcells v hv).1),List.length_replicate,Array.length_toList,size_zeroCells,hzs, ← Nat.add_mul,Nat.add_sub_cancel' (grownCap_ge _ _ _ _)]
      exact Nat.le_refl _)
  rw [List.length_replicate] at e1 e2 e3
  have hfl:(List.replicate (n + 1) zv).flatMap (fun x=>x.cells.toList)=(List.replicate (n + 1) zv.cells.toList).flatten:=by simp [List.flatMap_def]
  rw [hfl] at e1 e2 e3
  exact ⟨_,g',_,hrun (n + 1) (by omega) hbd hn,(Ext.drew g s w).trans e1,e2,e3⟩
theorem appendOp_run {S:St} (hs:∀ id,s id=S.get id) (hi:Inv g s w) {t t2 ty b:Nat} {x y:AVal} {vx vy:Value} {e:Eff} (hx:RepA g s w x vx) (hy:RepA g s w y vy)
    (ht2:notInt P t2=true) (h:abx P b t x y S=some e):Yields g s w e ((Builtin.append_ #[t,t2] ty #[vx,vy]).run P w):=by
  unfold abx at h
  split at h
  · rename_i et hel
    have ht:P.underlying t=some (.slice et):=by
      unfold elemT at hel
      split at hel <;> simp at hel
      subst hel; assumption
    split at h
    · rename_i sz by_ gg ys rd hsz hby hg hsrc
      split at h
      · simp at h
      · rename_i hck
        simp only [Bool.and_eq_true] at hck
        obtain ⟨⟨hac,hzo⟩,hb0⟩:=hck
        have hb0:0 < by_:=by
          have:Nat.ble (0 + 1) by_=true:=hb0
          exact Nat.le_of_ble_eq_true this
        obtain ⟨us,hr,r1,r2,r3⟩:=source_run (P:=P) (sz:=sz) hs hi hy hsrc hac
        have hu:=aeA hr hac
        have nothing:ys = []→(Builtin.lenOf vy).run P w = .ok 0 w∧(Builtin.firstCells sz 0 vy).run P w = .ok #[] w:=by
          intro hys; subst hys
          have:us = []:=hr
          subst this
          exact ⟨r1,r2⟩
        split at h
        ·
          have e0:vx = .slice none 0 0:=hx
          subst e0
          split at h
          · obtain ⟨n1,n2⟩:=nothing rfl
            simp at h; subst h
            exact .same (x:=.p .nils) hi (show RepA g s w (.p .nils) _ from rfl) (ac7 ht ht2 hsz n1 n2 (Nat.le_refl _))
          · rename_i hne
            split at h <;> simp at h
            rename_i hbd hfree
            subst h
            have:=aex (ty:=ty) (base:=none) (zs:=[]) (vs:=[]) (cap:=0) (rd:=b :: rd) (gg:=gg) hi ht ht2 hsz hby hzo hb0 rfl hr (by simpa using hu) r1 r3 (by simp [Builtin.firstCells]) rfl
              (List.length_pos_iff.2 (fun e=>hne e)) (by simpa using Nat.le_of_ble_eq_true hbd) ((hs b).trans hfree)
            simpa using this
        ·
          rename_i xs
          split at h
          · obtain ⟨n1,n2⟩:=nothing rfl
            simp at h; subst h
            rcases _root_.id hx with ⟨b1,o1,c1,z1,v1,rfl,hle,_⟩ | ⟨rfl,a,c1,rfl⟩
            · exact .same hi hx (ac7 ht ht2 hsz n1 n2 hle)
            · exact .same hi hx (ac7 ht ht2 hsz n1 n2 (Nat.zero_le _))
          · simp at h
        ·
          rename_i xs
          rcases _root_.id hx with ⟨b1,o1,z1,v1,e1,hr1,hz1,hc1⟩ | ⟨rfl,a,e1⟩
          case inr =>
            subst e1
            split at h
            · obtain ⟨n1,n2⟩:=nothing rfl
              simp at h; subst h
              exact .same hi hx (ac7 ht ht2 hsz n1 n2 (Nat.le_refl _))
            · rename_i hne
              split at h <;> simp at h
              rename_i hbd hfree hax
              subst h
              have:=aex (ty:=ty) (base:=some a) (zs:=[]) (vs:=[]) (cap:=0) (rd:=b :: rd) (gg:=gg) hi ht ht2 hsz hby hzo hb0 rfl hr (by simpa using hu) r1 r3 (run_firstCells_some w.drew sz 0 a 0 0 [] (by simp) (fun j c hj=>by simp at hj)) rfl
                (List.length_pos_iff.2 (fun e=>hne e)) (by simpa using Nat.le_of_ble_eq_true hbd) ((hs b).trans hfree)
              simpa using this
          subst e1
          split at h
          · obtain ⟨n1,n2⟩:=nothing rfl
            simp at h; subst h
            exact .same hi hx (ac7 ht ht2 hsz n1 n2 (Nat.le_refl _))
          · rename_i hne
            split at h <;> simp at h
            rename_i hbd hfree hax
            subst h
            have hv1:=mapP_cells hr1 hax
            have hl1:(v1.flatMap (·.cells.toList)).length=xs.length * sz:=by rw [aaD (fun v hv=>(hv1 v hv).1),RepPs.length hr1]
            have:=aex (P:=P) (ty:=ty) (base:=some ⟨b1,o1,none⟩) (zs:=xs.map .p) (vs:=v1) (cap:=xs.length) (rd:=b :: rd) (gg:=gg) hi ht ht2 hsz hby hzo hb0 (aaU hr1) hr
              (fun v hv=>(List.mem_append.1 hv).elim (hv1 v) (hu v)) r1 r3 (by rw [List.length_map]; exact run_first_in hc1.in hl1) (by simp)
              (List.length_pos_iff.2 (fun e=>hne e)) (by simpa using Nat.le_of_ble_eq_true hbd) ((hs b).trans hfree)
            simpa using this
        ·
          rename_i id ep off len c
          obtain ⟨b1,o1,cap,e1,hlc,hcd,hview⟩:=_root_.id hx
          subst e1
          split at h
          · rename_i sz' n xs cur lost fz hid
            split at h
            · rename_i q1 q2 q3 q4
              have q1:=Nat.eq_of_beq_eq_true q1
              subst q1
              have q2':=Nat.le_of_ble_eq_true q2
              have q3:=Nat.le_of_ble_eq_true q3
              have q4':=Nat.le_of_ble_eq_true q4
              have hvw:viewed S id ep off len=some ((xs.drop off).take len):=by simp [viewed,hid,q2,q4]
              split at h
              · obtain ⟨n1,n2⟩:=nothing rfl
                simp at h; subst h
                exact .same hi hx (ac7 ht ht2 hsz n1 n2 hlc)
              · rename_i hne
                have hne' : 0 < ys.length:=List.length_pos_iff.2 (fun e=>hne e)
                obtain ⟨vs,w1,w2,w3,w4⟩:=ahl hs hi hview hvw
                have hid' : s id=some (.arr sz n xs cur lost fz):=(hs id).trans hid
                have hvs:=w4 _ _ _ _ _ _ hid
                have hl1:(vs.flatMap (·.cells.toList)).length=len * sz:=by rw [aaD (fun v hv=>(hvs v hv).1),w2]
                split at h
                · split at h <;> simp at h
                  rename_i hfree
                  subst h
                  have hzl:((xs.drop off).take len).length=len:=by rw [← RepAs.length w1,w2]
                  have:=aex (P:=P) (ty:=ty) (base:=some ⟨b1,o1,none⟩) (zs:=(xs.drop off).take len) (vs:=vs) (cap:=cap) (rd:=b :: id :: rd) (gg:=gg) hi ht ht2 hsz hby hzo hb0 w1 hr
                    (fun v hv=>(List.mem_append.1 hv).elim (hvs v) (hu v)) r1 r3 (by rw [hzl,run_firstCells_some w.drew sz _ _ _ _ _ hl1 (fun j c hj=>by rw [Addr.add_lit]; exact w3 j c hj)]) (by rw [hzl]; exact hcd rfl)
                    hne' (by rw [hzl]; exact q3) ((hs b).trans hfree)
                  rw [hzl] at this
                  exact this
                · split at h
                  ·
                    have hlc' : len≤n:=by omega
                    have hfl:xs.length=n:=(hi.arr id _ _ _ _ _ _ hid').1.symm
                    have both:∀ lost',fz≤len→((len=n∧lost' = lost) ∨ lost' = cur + 1) →
                        Yields g s w ⟨.arr id (cur + 1) 0 (len + ys.length) false,id :: rd,[(id, .arr sz (len + ys.length) (xs.take len ++ ys) (cur + 1) lost' fz)]⟩
                          ((Builtin.append_ #[t,t2] ty #[.slice (some ⟨b1,o1,none⟩) len cap,vy]).run P w):=by
                      intro lost' hfz hlost
                      by_cases hroom:len + ys.length≤cap
                      · obtain ⟨c2,ty2,g',z1,z2,z3,z4,z5⟩:=append_at hi hid' hview q2' hr hu hlc' hfz hroom hne' hlost
                        exact ⟨_,g',_,append_in ht ht2 hsz r1 r2 (fun x hx=>by
                          obtain ⟨v,hv1,hv2⟩:=List.mem_flatMap.1 hx
                          exact (hu v hv1).2 x hv2) hroom z1 z2,z3,z4,z5⟩
                      · obtain ⟨cap',rest,k1,k2,k3⟩:=append_new (ty:=ty) (base:=some ⟨b1,o1,none⟩) (cap:=cap) ht ht2 hsz hby hzo r1 r3
                          (run_firstCells_some w.drew sz _ _ _ _ _ hl1 (fun j c hj=>by rw [Addr.add_lit]; exact w3 j c hj)) (by omega) q3
                          (by have:=Nat.le_trans (Nat.le_mul_of_pos_right _ hb0) q3; omega)
                        have hx0:RepAs g s w.drew (xs.take len) vs:=by
                          have:=RepAs.ext (Ext.drew g s w) _ _ w1
                          simpa using this
                        have hF:=aaD (vs:=vs ++ us) (fun v hv=>((List.mem_append.1 hv).elim (hvs v) (hu v)).1)
                        have hL:(vs ++ us).length=len + ys.length:=by rw [List.length_append,w2,RepAs.length hr]
                        obtain ⟨g',z1,z2,z3⟩:=append_move (Inv.drew hi) (rest:=rest) (t:=et) (cap:=cap') hid' hx0 (RepAs.ext (Ext.drew g s w) _ _ hr) hvs hu hlc' hfz hne' k1
                          (by rw [List.length_append,hF,hL,k2, ← Nat.add_mul,Nat.add_sub_cancel' k1]; exact Nat.le_refl _) hlost
                        rw [List.flatMap_append] at z1 z2 z3
                        exact ⟨_,g',_,k3,(Ext.drew g s w).trans z1,z2,z3⟩
                    split at h
                    · rename_i hbn
                      have hbn:=Nat.eq_of_beq_eq_true hbn
                      simp at h; subst h
                      have:=both lost (by have:=(hi.arr id _ _ _ _ _ _ hid').2.2.1; omega) (.inl ⟨hbn,rfl⟩)
                      rw [List.take_of_length_le (by omega)] at this
                      exact this
                    · split at h <;> simp at h
                      rename_i hbf
                      subst h
                      exact both (cur + 1) (Nat.le_of_ble_eq_true hbf) (.inr rfl)
                  · simp at h
            · simp at h
          · simp at h
        · simp at h
    · simp at h
  · simp at h
end
end Go.Proofs.YtdnbnpknpejpdaaGreatDoor.Sw
namespace Go.Proofs.YtdnbnpknpejpdaaGreatDoor.Sw
open Go.RowKit
section
variable {P:Program} {g:Sg} {s:Sto} {w:World}
theorem new_imm (hi:Inv g s w) (c:Array Value) (t:TypeId) :
    ∃ g',Ext g s w g' s (w.alloc (.cells c t))∧Inv g' s (w.alloc (.cells c t))∧(∀ o,g'.imm w.heap.size o):=by
  have hrgn:g.rg w.heap.size=none:=by
    cases hr' : g.rg w.heap.size with
    | none=>rfl
    | some r=>obtain ⟨a,b,c⟩:=r; have:=(hi.rgS _ _ _ _ hr').2.2; omega
  let g' : Sg:={ g with imm:=fun b o=>g.imm b o ∨ b=w.heap.size }
  have e:Ext g s w g' s (w.alloc (.cells c t)):=Ext.alloc hi _ (fun _ _ h=>h) (fun _ _ h=>.inl h) (fun _ _ h=>h) (fun _ _ h=>h) (fun _ _ _=>rfl) rfl
    (fun b o hb h=>h.resolve_right (fun e=>by subst e; have:=hi.baseS; omega)) rfl (fun b o hb h=>h.resolve_right (fun e=>by subst e; have:=(hi.prS _ hb).1; omega))
  refine ⟨g',e,⟨?_, ?_, ?_, ?_,hi.inj, ?_, ?_,ad2 hi.ho e (fun _ _ h=>h) (fun i b' hb' _=>aay _ _ (hi.bxS _ _ hb').2.1),hi.prS.step (by simp) rfl (fun _ _=>.inr rfl) (fun _ _ _ h=>⟨_,h⟩)⟩,fun _=>.inr rfl⟩
  · intro i cs' h
    obtain ⟨b,c',t',h1,h2,h3,h4⟩:=hi.box i cs' h
    exact ⟨b,c',t',h1,by rw [aay _ _ (hi.bxS _ _ h1).2.1]; exact h2,RepAs.ext e _ _ h3,h4⟩
  · intro i sz' n xs' cur lost fz h
    obtain ⟨h1,h2,h3,h4⟩:=hi.arr i sz' n xs' cur lost fz h
    refine ⟨h1,h2,h3,fun b st m hb=>?_⟩
    have hlt:=(hi.rgS _ _ _ _ hb).2.2
    obtain ⟨h5,c',t',vs',h6,h7,h8,h9,h10,h11⟩:=h4 b st m hb
    refine ⟨h5,c',t',vs',by rw [aay _ _ hlt]; exact h6,RepAs.ext e _ _ h7,h8,h9,fun o ho=>?_,h11⟩
    rcases ho with ho | ho
    · exact h10 o ho
    · omega
  · intro b i st m hb
    obtain ⟨h1,h2,h3⟩:=hi.rgS b i st m hb
    exact ⟨h1,h2,by simp; omega⟩
  · intro i b hb
    obtain ⟨h1,h2,h3,h4,h5⟩:=hi.bxS i b hb
    refine ⟨h1,by simp; omega,h3,fun o ho=>?_,h5⟩
    rcases ho with ho | ho
    · exact h4 o ho
    · omega
  · intro b o h
    rcases h with h | h
    · have:=hi.immS b o h; simp; omega
    · simp; omega
  · simp; have:=hi.baseS; show g.base≤_; omega
theorem alO {gg:Bool} {n:Nat}:∀ {parts:List (Nat × AVal)} {vals:List (Nat × Value)} {xs:List AVal} {k:Nat} {A Z:List Value},afY g s w parts vals →
    aiU gg n k parts=some xs→A.length=k * n→Z.length=parts.length * n →
    ∃ us,RepAs g s w xs us∧(∀ u ∈ us,u.cells.size=n ∧ ∀ x ∈ u.cells.toList,isCell x=true)∧us.length=parts.length ∧
      Instr.fill (fun i=>some (i * n,n)) (A ++ Z).toArray vals=some (A ++ us.flatMap (·.cells.toList)).toArray
  | [],vals,xs,k,A,Z,hp,h,hA,hZ=>by
    simp [aiU] at h; subst h
    have e:vals = []:=hp
    subst e
    have:Z = []:=by simpa using hZ
    subst this
    exact ⟨[],rfl,by simp,rfl,by simp [Instr.fill]⟩
  | (i,x) :: parts,vals,xs,k,A,Z,hp,h,hA,hZ=>by
    obtain ⟨v,t,rfl,hx,ht⟩:=hp
    simp only [aiU] at h
    split at h
    · rename_i cs hb hcs
      have hb:=Nat.eq_of_beq_eq_true hb
      subst hb
      split at h <;> simp at h
      rename_i ys hys
      subst h
      obtain ⟨_,k2,k3,_,_⟩:=abO hx hcs
      have hsz:v.cells.toList.length=n:=by simpa using k2
      simp only [List.length_cons,Nat.add_mul,Nat.one_mul] at hZ
      obtain ⟨us,h1,h2,h3,h4⟩:=alO (A:=A ++ v.cells.toList) (Z:=Z.drop n) (k:=i + 1) ht hys (by rw [List.length_append,hA,hsz,Nat.add_mul]; omega) (by rw [List.length_drop]; omega)
      refine ⟨v :: us,⟨_,_,rfl,hx,h1⟩, ?_,by simp [h3], ?_⟩
      · intro u hu
        cases hu with
        | head=>exact ⟨k2,k3⟩
        | tail _ hu=>exact h2 u hu
      · simp only [Instr.fill]
        have hno:¬ ((decide (v.cells.size ≠ n) || decide (i * n + v.cells.size > (A ++ Z).toArray.size))=true):=by
          simp [k2,hA]; omega
        rw [if_neg hno,put_fold (by simp [k2,hA]; omega)]
        have e1:(A ++ Z).toArray.toList.take (i * n)=A:=by simp [← hA]
        have e2:(A ++ Z).toArray.toList.drop (i * n + v.cells.toList.length)=Z.drop n:=by
          rw [hsz, ← hA]; simp [List.drop_append]
        rw [e1,e2,h4,List.flatMap_cons,List.append_assoc]
    · simp at h
theorem run_zeroCells' {e n:Nat} {gg:Bool} (h:zeroOk P e gg n=true):∃ v,(Go.zeroValue e).run P w = .ok v w∧v.cells.size=n:=by
  obtain ⟨i,v,h1,h2,h3⟩:=akt h
  exact ⟨v,by simp [Go.zeroValue,aaR h1,h2],h3⟩
theorem buildSlice_run {S:St} (hs:∀ id,s id=S.get id) (hi:Inv g s w) {t len b:Nat} {parts:List (Nat × AVal)} {vals:List (Nat × Value)} {e:Eff} (hp:afY g s w parts vals)
    (h:abP P b t len parts S=some e):Yields g s w e ((Instr.buildSlice t len vals.toArray).run P w):=by
  unfold abP at h
  split at h
  · rename_i et hel
    have ht:P.underlying t=some (.slice et):=by
      unfold elemT at hel
      split at hel <;> simp at hel
      subst hel; assumption
    split at h
    · rename_i n gg hn hg
      split at h
      · simp at h
      · rename_i hzo
        split at h
        · rename_i xs hxs hl hb
          have hl:=Nat.eq_of_beq_eq_true hl
          have hb:=Nat.le_of_ble_eq_true hb
          obtain ⟨zv,z1,z2⟩:=run_zeroCells' (w:=w) hzo
          have key:∃ us,RepAs g s w xs us∧(∀ u ∈ us,u.cells.size=n ∧ ∀ x ∈ u.cells.toList,isCell x=true)∧us.length=len ∧
              (Instr.buildSlice t len vals.toArray).run P w = .ok (.slice (some ⟨w.heap.size,0,none⟩) len len) (w.alloc (.cells (us.flatMap (·.cells.toList)).toArray et)):=by
            have hno:¬ (len * n > 2 ^ 24):=by
              have:(2:Nat) ^ 24=16777216:=by decide
              omega
            by_cases h0:len * n=0
            · obtain ⟨us,h1,h2,h3,h4⟩:=alO (A:=[]) (Z:=[]) (k:=0) hp hxs (by simp) (by rw [hl]; simpa using h0.symm)
              refine ⟨us,h1,h2,by rw [h3,hl], ?_⟩
              simp only [List.nil_append] at h4
              have e0:((Array.range (len * n)).map fun x=>(#[]:Array Value)[x % (#[]:Array Value).size]!) = [].toArray:=by rw [h0]; simp
              simp only [Instr.buildSlice,Sem.run_bind,aaa ht,Result.andThen_ok,aaw hn]
              rw [if_neg hno,if_pos h0]
              simp only [Sem.run_pure,Sem.run_bind,Result.andThen_ok]
              rw [e0,h4]
              simp [newRow]
            · obtain ⟨us,h1,h2,h3,h4⟩:=alO (A:=[]) (Z:=((Array.range (len * n)).map fun x=>zv.cells[x % zv.cells.size]!).toList) (k:=0) hp hxs (by simp) (by simp [hl])
              refine ⟨us,h1,h2,by rw [h3,hl], ?_⟩
              simp only [List.nil_append,Array.toArray_toList] at h4
              simp only [Instr.buildSlice,Sem.run_bind,aaa ht,Result.andThen_ok,aaw hn]
              rw [if_neg hno,if_neg h0]
              simp only [Sem.run_pure,Sem.run_bind,Result.andThen_ok,z1]
              rw [h4]
              simp [newRow]
          obtain ⟨us,h1,h2,h3,h4⟩:=key
          have hxl:xs.length=len:=by rw [← h3,RepAs.length h1]
          split at h
          · rename_i ps hps
            simp at h; subst h
            obtain ⟨g',e1,e2,e3⟩:=new_imm hi (us.flatMap (·.cells.toList)).toArray et
            have hr:RepPs g'.imm _ ps us:=RepPs.keeps e1.keeps _ _ (aeG hps h1)
            have hpl:ps.length=len:=by rw [← h3,RepPs.length hr]
            refine ⟨_,g',_,h4,e1,e2, .inl ⟨w.heap.size,0,n,us,by rw [hpl],hr,fun x hx=>(h2 x hx).1,fun i c hc=>⟨?_,e3 _⟩⟩⟩
            rw [aa4 (heap_alloc_new w _)]
            simpa using hc
          · split at h <;> simp at h
            rename_i hfree
            subst h
            obtain ⟨g',e1,e2,e3⟩:=new_arr hi (id:=b) ((hs b).trans hfree) (rest:=[]) (t:=et) (cap:=len) (capd:=true) h1 h2 (by omega) (fun _=>hxl.symm) (by simp)
            simp only [List.append_nil,hxl] at e1 e2 e3
            exact ⟨_,g',_,h4,e1,e2,e3⟩
        · simp at h
    · simp at h
  · simp at h
theorem rep_get {α β:Type} {f:α→List β} {v:α} {n:Nat} (hn:(f v).length=n):∀ (c i:Nat),i < c * n→((List.replicate c v).flatMap f)[i]? = (f v)[i % n]?
  | 0,i,h=>by simp at h
  | c + 1,i,h=>by
    rw [List.replicate_succ,List.flatMap_cons]
    by_cases hi:i < n
    · rw [List.getElem?_append_left (by omega),Nat.mod_eq_of_lt hi]
    · rw [List.getElem?_append_right (by omega),hn,rep_get hn c (i - n) (by rw [Nat.add_mul] at h; omega)]
      rw [← Nat.mod_eq_sub_mod (by omega)]
theorem range_cells {v:Value} {n c:Nat} (hn:v.cells.size=n):((Array.range (c * n)).map fun x=>v.cells[x % v.cells.size]!)=((List.replicate c v).flatMap (·.cells.toList)).toArray:=by
  apply Array.ext'
  apply List.ext_getElem?
  intro i
  have hl:((List.replicate c v).flatMap (·.cells.toList)).length=c * n:=by
    rw [aaD (sz:=n) (fun x hx=>by rw [List.eq_of_mem_replicate hx]; exact hn)]; simp
  by_cases h:i < c * n
  · rw [rep_get (n:=n) (by simpa using hn) c i h]
    subst hn
    have hm:i % v.cells.size < v.cells.size:=Nat.mod_lt _ (by
                                                                  rcases Nat.eq_zero_or_pos v.cells.size with h0 | h0
                                                                  · rw [h0] at h; simp at h
                                                                  · exact h0)
    have e1:v.cells[i % v.cells.size]! = v.cells[i % v.cells.size]'hm:=getElem!_pos _ _ _
    simp only [Array.toList_map,Array.toList_range,List.getElem?_map,List.getElem?_range h,Option.map_some,e1]
    simp [hm]
  · rw [List.getElem?_eq_none (by simp; omega),List.getElem?_eq_none (by rw [hl]; omega)]
theorem makeSlice_run {S:St} (hs:∀ id,s id=S.get id) (hi:Inv g s w) {t b:Nat} {x y:AVal} {vx vy:Value} {e:Eff} (hx:RepA g s w x vx) (hy:RepA g s w y vy)
    (h:ac3 P b t x y S=some e):Yields g s w e ((Instr.makeSlice t vx vy).run P w):=by
  unfold ac3 at h
  split at h
  · rename_i et l c hel hl hc
    have ht:P.underlying t=some (.slice et):=by
      unfold elemT at hel
      split at hel <;> simp at hel
      subst hel; assumption
    split at h
    · rename_i n by_ z gg hn hby hz hg
      split at h <;> simp at h
      rename_i cs k1 k2 k3 hcs hfree
      have k1:=Nat.le_of_ble_eq_true k1
      have k2:=Nat.le_of_ble_eq_true k2
      have k3:=Nat.le_of_ble_eq_true k3
      subst h
      obtain ⟨kx,rfl⟩:=agE hx hl
      obtain ⟨ky,rfl⟩:=agE hy hc
      obtain ⟨zv,z1,z2⟩:=abF (P:=P) (w:=w) hz
      have zr:RepA g s w (.p z) zv:=abv (I:=g.imm) (w:=w) z2
      obtain ⟨_,z3,z4,_,_⟩:=abO zr hcs
      obtain ⟨i,hi1,rfl⟩:∃ i,P.info? et=some i∧i.bytes=by_:=by
        simpa [bytesT] using hby
      have hrep:∀ m:Nat,RepAs g s w (List.replicate m (.p z)) (List.replicate m zv):=by
        intro m
        induction m with
        | zero=>rfl
        | succ m ih=>exact ⟨_,_,rfl,zr,ih⟩
      have hsz:∀ v ∈ List.replicate l zv,v.cells.size=n ∧ ∀ x ∈ v.cells.toList,isCell x=true:=fun v hv=>by rw [List.eq_of_mem_replicate hv]; exact ⟨z3,z4⟩
      have hcl:(List.replicate c zv).flatMap (·.cells.toList)=(List.replicate l zv).flatMap (·.cells.toList) ++ (List.replicate (c - l) zv).flatMap (·.cells.toList):=by
        rw [← List.flatMap_append,List.replicate_append_replicate,Nat.add_sub_cancel' k1]
      have hrun:(Instr.makeSlice t (.int kx (l:Int)) (.int ky (c:Int))).run P w = .ok (.slice (some ⟨w.heap.size,0,none⟩) l c)
          (w.alloc (.cells ((List.replicate l zv).flatMap (·.cells.toList) ++ (List.replicate (c - l) zv).flatMap (·.cells.toList)).toArray et)):=by
        have w1:IntKind.i64.wrap (l:Int)=l:=by rw [IntKind.wrap_i64]; omega
        have w2:IntKind.i64.wrap (c:Int)=c:=by rw [IntKind.wrap_i64]; omega
        have a1:(asInt (.int kx (l:Int))).run P w = .ok (l:Int) w:=by simp [asInt,asIntOf]
        have a2:(asInt (.int ky (c:Int))).run P w = .ok (c:Int) w:=by simp [asInt,asIntOf]
        have b4:¬ ((i.bytes:Int) * (c:Int) > 2 ^ 48):=by
          have:((c * i.bytes:Nat):Int)≤((1099511627776:Nat):Int):=Int.ofNat_le.2 k2
          rw [Int.natCast_mul,Int.mul_comm] at this
          have h48:(2:Int) ^ 48=281474976710656:=by decide
          omega
        have bb:¬ (((decide ((c:Int) < 0) || decide ((i.bytes:Int) * (c:Int) > 2 ^ 48)) || decide ((l:Int) < 0) || decide ((l:Int) > (c:Int)))=true):=by
          simp only [Bool.or_eq_true,decide_eq_true_eq]
          rintro (((h | h) | h) | h)
          · omega
          · exact b4 h
          · omega
          · omega
        rw [← hcl]
        by_cases h0:c * n=0
        · have e0:(List.replicate c zv).flatMap (·.cells.toList) = []:=by
            apply List.eq_nil_of_length_eq_zero
            rw [aaD (sz:=n) (fun x hx=>by rw [List.eq_of_mem_replicate hx]; exact z3),List.length_replicate]; exact h0
          have e1:((Array.range (c * n)).map fun x=>(#[]:Array Value)[x % (#[]:Array Value).size]!) = [].toArray:=by rw [h0]; simp
          simp only [Instr.makeSlice,Sem.run_bind,aaa ht,Result.andThen_ok,a1,a2,aaR hi1,w1,w2]
          rw [if_neg bb]
          simp only [Sem.run_bind,run_askRoom,Sem.run_pure,Result.andThen_ok,aaw hn,Int.toNat_natCast,if_pos h0,e0,e1,newRow,run_newObj]
          rfl
        · have:=range_cells (v:=zv) (n:=n) (c:=c) z3
          simp only [Instr.makeSlice,Sem.run_bind,aaa ht,Result.andThen_ok,a1,a2,aaR hi1,w1,w2]
          rw [if_neg bb]
          simp only [Sem.run_bind,run_askRoom,Sem.run_pure,Result.andThen_ok,aaw hn,Int.toNat_natCast,if_neg h0,z1,this,newRow,run_newObj]
          rfl
      obtain ⟨g',e1,e2,e3⟩:=new_arr hi (id:=b) ((hs b).trans hfree) (xs:=List.replicate l (.p z)) (rest:=(List.replicate (c - l) zv).flatMap (·.cells.toList)) (t:=et) (cap:=c) (capd:=false) (hrep l) hsz (by simpa using k1) (by simp) (fun _=>by
        rw [← hcl,aaD (sz:=n) (fun x hx=>by rw [List.eq_of_mem_replicate hx]; exact z3)]; simp)
      rw [List.length_replicate] at e1 e2 e3
      exact ⟨_,g',_,hrun,e1,e2,e3⟩
    · simp at h
  · simp at h
end
end Go.Proofs.YtdnbnpknpejpdaaGreatDoor.Sw
