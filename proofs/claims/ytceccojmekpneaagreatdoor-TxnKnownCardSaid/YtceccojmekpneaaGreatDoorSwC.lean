/- The evaluator: calls, regions, code, functions. -/
import Derived.Test.YtceccojmekpneaaGreatDoorSwB
import Derived.Orders
namespace Go.Proofs.YtceccojmekpneaaGreatDoor.Sw

inductive XExit where
  | normal
  | exit (id : Nat)
  | ret
  | pan (v : AVal)

inductive CR where
  | ret (v : AVal) (s : St)
  | pan (v : AVal) (s : St)

/-- what is called: a function; the body of a loop over a function; a function in a store of its own. -/
inductive Tgt where
  | fn (f : Nat)
  | yld (id : Nat)
  | iso (f : Nat)

abbrev CallFn := Tgt → List AVal → St → Option CR

/-- what an operation comes to: an effect; anything; a panic. -/
inductive R where
  | eff (e : Eff)
  | all (v : AVal) (s : St)
  | pan (v : AVal) (s : St)
  | dfr (f : Nat) (cap : List AVal)

def depth : Nat := 12

/-! ### Results -/
def purEs (f : AVal → Option (PVal × List Nat)) : List (PVal × AVal) → Option (List (PVal × PVal) × List Nat)
  | [] => some ([], [])
  | (k, v) :: r => match f v, purEs f r with
    | some (x, a), some (xs, b) => some ((k, x) :: xs, a ++ b)
    | _, _ => none

/-- a part of a result: its value, the names that were looked at, the names that it takes over. -/
def outv (s : St) (v : AVal) : Option (AVal × List Nat × List Nat) :=
  match v with
  | .arr id ep off len c => match s.get id with
    | some (.arr sz n xs cur lost fz) => match Nat.beq ep cur, Nat.beq off 0, Nat.beq len n, Nat.beq fz 0, c, Nat.ble lost ep with
      | true, true, true, true, false, true => match purs (pur s depth) xs with
        | some (ys, rd) => some (.own sz ys, rd, [id])
        | none => none
      | _, _, _, _, _, _ => (pur s depth v).map fun x => (.p x.1, x.2, [])
    | _ => none
  | .rf .mp id => match s.get id with
    | some (.ho (.mp es)) => match purEs (pur s depth) es with
      | some (ys, rd) => some (.ownm ys, rd, [id])
      | none => none
    | _ => none
  | v => (pur s depth v).map fun x => (.p x.1, x.2, [])

def hasDup : List Nat → Bool
  | [] => false
  | x :: r => match r.contains x with
    | true => true
    | false => hasDup r

def meets : List Nat → List Nat → Bool
  | [], _ => false
  | x :: r, l => match l.contains x with
    | true => true
    | false => meets r l

def outvs (s : St) : List AVal → Option (List AVal × List Nat × List Nat)
  | [] => some ([], [], [])
  | v :: r => match outv s v, outvs s r with
    | some (x, a, b), some (xs, c, d) => some (x :: xs, a ++ c, b ++ d)
    | _, _ => none

/-- the parts of a result, if none is taken over twice, or looked at. -/
def outL (s : St) (vs : List AVal) : Option (List AVal) :=
  match outvs s vs with
  | some (xs, rd, ow) => match hasDup ow || meets ow rd with
    | false => some xs
    | true => none
  | none => none

/-- a result of a call that was made in a store of its own. -/
def outR (s : St) (v : AVal) : Option AVal :=
  match (match v with
    | .tup vs => (outL s vs).map mkTup
    | .agg vs => (outL s vs).map mkAgg
    | v => match outL s [v] with
      | some [x] => some x
      | _ => none) with
  | some x => some x
  | none => (pur s depth v).map fun x => .p x.1

/-- what is owned gets a name. -/
def adopt1 (b : Nat) (v : AVal) : AVal × List (Nat × Obj) :=
  match v with
  | .own sz xs => (.arr b 0 0 xs.length false, [(b, .arr sz xs.length (xs.map .p) 0 0 0)])
  | .ownm es => (.rf .mp b, [(b, .ho (.mp (es.map fun q => (q.1, .p q.2))))])
  | v => (v, [])

def adopts (b : Nat) : List AVal → List AVal × List (Nat × Obj)
  | [] => ([], [])
  | v :: r =>
    match adopt1 b v, adopts (b + 1) r with
    | (x, w), (xs, ws) => (x :: xs, w ++ ws)

def adopt (b : Nat) (v : AVal) : AVal × List (Nat × Obj) :=
  match v with
  | .tup vs => match adopts b vs with
    | (xs, w) => (.tup xs, w)
  | .agg vs => match adopts b vs with
    | (xs, w) => (.agg xs, w)
  | v => adopt1 b v

def allFree (s : St) : List (Nat × Obj) → Bool
  | [] => true
  | (i, _) :: r => match s.get i with
    | none => allFree s r
    | some _ => false

/-- no slice and no pointer in it. -/
def flatP : PVal → Bool
  | .bool _ => true
  | .int _ _ => true
  | .str _ => true
  | .tup vs => flats vs
  | .agg vs => flats vs
  | .nilp => true
  | .nils => true
  | .nilm => true
  | .nilf => true
  | .nili => true
  | _ => false
where
  flats : List PVal → Bool
    | [] => true
    | v :: r => match flatP v with
      | true => flats r
      | false => false

def flatA : AVal → Bool
  | .p x => flatP x
  | _ => false

def freeze (s : St) : List Nat → List (Nat × Obj)
  | [] => []
  | id :: r => match s.get id with
    | some (.arr sz n xs ep lost _) => (id, .arr sz n xs ep lost n) :: freeze s r
    | _ => freeze s r

/-- may it be handed to a call without names, by its form? -/
def pureAs (f : AVal → Bool) : List AVal → Bool
  | [] => true
  | v :: r => match f v with
    | true => pureAs f r
    | false => false

def pureA : Nat → AVal → Bool
  | 0, _ => false
  | d + 1, v => match v with
    | .p _ => true
    | .cl _ => true
    | .agg cs => pureAs (pureA d) cs
    | .tup cs => pureAs (pureA d) cs
    | .iface _ v => pureA d v
    | .fn _ cap => pureAs (pureA d) cap
    | .arr _ _ _ _ _ => true
    | _ => false

def callAt (C : CallFn) (imp : Nat → Bool) (s : St) (b : Nat) (f : Nat) (args : List AVal) : Option R :=
  match (match imp f with | true => false | false => pureAs (pureA depth) args) with
  | true => match purs (pur s depth) args with
   | none => none
   | some (ps, ids) => match C (.iso f) (ps.map .p) St.empty with
    | some (.ret v s') => match outR s' v with
      | some v => match adopt b v with
        | (v', w) => match Nat.ble w.length 16, allFree s w with
          | true, true => some (.eff ⟨v', ids ++ w.map (·.1), (match flatA v' with | true => [] | false => freeze s ids) ++ w⟩)
          | _, _ => none
      | none => none
    | some (.pan v s') => match pur s' depth v with
      | some (x, _) => match flatP x with
        | true => some (.pan (.p x) { s with log := .op ids [] .e })
        | false => none
      | none => none
    | none => none
  | false => match C (.fn f) args { s with log := .e } with
    | some (.ret v s') => some (.all v s')
    | some (.pan v s') => some (.pan v s')
    | none => none

def fnOf : AVal → Option (Fn × List AVal)
  | .p (.fn f cap) => some (f, cap.map .p)
  | .fn f cap => some (f, cap)
  | _ => none

/-- the function behind a method of a dynamic type, whose receiver is the value itself. -/
def methodAt (P : Program) (t : Nat) (name : String) : Option Nat :=
  match P.info? t with
  | some i => match i.methods.find? (·.name == name) with
    | some m => match m.path.toList, m.func with
      | [], some (f, ptr) => match P.underlying t, ptr with
        | some (.pointer _), true => some f
        | some (.pointer _), false => none
        | some _, false => some f
        | _, _ => none
      | _, _ => none
    | none => none
  | none => none

def callOp (C : CallFn) (imp : Nat → Bool) (P : Program) (tm : Tr AVal) (s : St) (b : Nat) (c : Call) : Option R :=
  match c.callee with
  | .value o => match operand tm o, operands tm c.args.toList with
    | some fv, some args => match fnOf fv with
      | some (.func f, cap) => callAt C imp s b f (args ++ cap)
      | some _ => none
      | none => match fv with
        | .rf .yld id => match C (.yld id) args { s with log := .e } with
          | some (.ret v s') => some (.all v s')
          | _ => none
        | _ => none
    | _, _ => none
  | .invoke o name => match operand tm o, operands tm c.args.toList with
    | some x, some args => match ifOf x with
      | some (some (t, v)) => match methodAt P t name with
        | some f => callAt C imp s b f (v :: args)
        | none => none
      | _ => none
    | _, _ => none
  | .builtin _ => none

def evOp (C : CallFn) (imp : Nat → Bool) (P : Program) (tm : Tr AVal) (s : St) (b : Nat) (op : Op) : Option R :=
  match op with
  | .panic x => match operand tm x with
    | some v => match ifOf v with
      | some (some _) => some (.pan v { s with log := .e })
      | _ => none
    | none => none
  | .call c => match c.callee with
    | .builtin _ => (plainOp P tm s b op).map .eff
    | _ => callOp C imp P tm s b c
  | .defer c => match c.callee, c.args.toList with
    | .value o, [] => match operand tm o with
      | some fv => match fnOf fv with
        | some (.func f, cap) => some (.dfr f cap)
        | _ => none
      | none => none
    | _, _ => none
  | _ => (plainOp P tm s b op).map .eff

/-! ### Regions -/
def wantedA (ops : Array Oper) (tm : Tr AVal) (o : Oper) : Option Bool :=
  match o.guard with
  | none => some true
  | some (j, want) => match ops[j]? with
    | some oj => match oj.dst with
      | some d => match operand tm (.tmp d) with
        | some (.p (.bool b)) => some (b == want)
        | some (.p (.tup [])) => some false
        | _ => none
      | none => none
    | none => none

def setDst (n : Nat) (tm : Tr AVal) (d : Option Nat) (v : AVal) : Option (Tr AVal) :=
  match d with
  | none => some tm
  | some d => match Nat.blt d n with
    | true => some (tm.set d v)
    | false => none

/-- what an operation touched. -/
structure Rec where
  rd : List Nat
  wr : List Nat

/-- what is put off until the function is left. -/
inductive Dfr where
  | mark (id : Nat)
  | call (f : Nat) (cap : List AVal)

inductive RO where
  | done (tm : Tr AVal) (s : St) (recs : List (Nat × Rec)) (ds : List Dfr)
  | pan (v : AVal) (tm : Tr AVal) (s : St) (ds : List Dfr)

def recOf (e : Eff) : Rec := ⟨e.rd, e.wr.map (·.1)⟩

def addRec (i : Nat) (x : Rec) (recs : List (Nat × Rec)) : List (Nat × Rec) :=
  match x.rd, x.wr with
  | [], [] => recs
  | _, _ => (i, x) :: recs

def evOps (C : CallFn) (imp : Nat → Bool) (P : Program) (n : Nat) (ops : Array Oper) : List Oper → Nat → Nat → Tr AVal → St → List (Nat × Rec) → List Dfr → Option RO
  | [], _, _, tm, s, recs, ds => some (.done tm s recs ds)
  | o :: r, i, b, tm, s, recs, ds =>
    match wantedA ops tm o with
    | some true => match evOp C imp P tm s b o.op with
      | some (.eff e) => match setDst n tm o.dst e.v with
        | some tm' => evOps C imp P n ops r (i + 1) (b + 16) tm' (s.did e.rd e.wr) (addRec i (recOf e) recs) ds
        | none => none
      | some (.all v s') => match setDst n tm o.dst v with
        | some tm' => evOps C imp P n ops r (i + 1) (b + 16) tm' { s' with log := .call s'.log s.log } (addRec i ⟨s'.log.rdOf, s'.log.flat.map (·.1)⟩ recs) ds
        | none => none
      | some (.pan v s') => some (.pan v tm { s' with log := .call s'.log s.log } ds)
      | some (.dfr f cap) => match setDst n tm o.dst (.p (.tup [])) with
        | some tm' => evOps C imp P n ops r (i + 1) (b + 16) tm' s recs (.call f cap :: ds)
        | none => none
      | none => none
    | some false => match setDst n tm o.dst (.p (.tup [])) with
      | some tm' => evOps C imp P n ops r (i + 1) (b + 16) tm' s recs ds
      | none => none
    | none => none

def clash (a b : Rec) : Bool := meets a.wr b.rd || meets a.wr b.wr || meets b.wr a.rd

/-- x, and those that stand before it. -/
def freeOf (m : Nat) (x : Rec) : List (Nat × Rec) → Bool
  | [] => true
  | (j, y) :: r => match clash x y with
    | false => freeOf m x r
    | true => match m.testBit j with
      | true => freeOf m x r
      | false => false

def pairsFree (before : Array Nat) : List (Nat × Rec) → Bool
  | [] => true
  | (i, x) :: r => match freeOf (before.getD i 0) x r with
    | true => pairsFree before r
    | false => false

/-- all edges that always bind lead backwards. -/
def edgesBack (ops : Array Oper) : Bool :=
  ops.toList.zipIdx.all fun (o, i) => o.after.toList.all fun e => !Region.binds .any e || Nat.blt e.on i

/-- operations between which there is no order touch no temporary of each other. -/
def namesApart (ops : Array Oper) (before : Array Nat) : Bool :=
  ops.toList.zipIdx.all fun (y, j) => (ops.toList.zipIdx.take j).all fun (x, i) => (before.getD j 0).testBit i || x.apart ops y

/-- a region that may be drawn. -/
def statOk (ops : Array Oper) : Bool := edgesBack ops && namesApart ops (Region.before ops)

/-- all regions of some code that may be drawn are fine. -/
def codeOk : Code → Bool
  | .region _ ops true => statOk ops
  | .seq a b => codeOk a && codeOk b
  | .cond _ a b => codeOk a && codeOk b
  | .block _ c => codeOk c
  | .loop c => codeOk c
  | .scope c => codeOk c
  | .rangeFunc _ _ a b => codeOk a && codeOk b
  | _ => true

structure Fr where
  tm : Tr AVal
  dfs : List Dfr

/-- rd: within a round of a loop over a function nothing is put off. -/
def evRegion (C : CallFn) (imp : Nat → Bool) (P : Program) (n : Nat) (rd : Bool) (ops : Array Oper) (draw : Bool) (fr : Fr) (s : St) : Option (XExit × Fr × St) :=
  match evOps C imp P n ops ops.toList 0 s.next fr.tm { s with next := s.next + 16 * ops.size } [] [] with
  | some (.done tm s recs ds) => match draw with
    | false => match rd, ds with
      | true, _ :: _ => none
      | _, _ => some (.normal, { tm := tm, dfs := ds ++ fr.dfs }, s)
    | true => match ds with
      | [] => match pairsFree (Region.before ops) recs with
        | true => some (.normal, { fr with tm }, s)
        | false => none
      | _ :: _ => none
  | some (.pan v tm s ds) => match draw with
    | false => match rd, ds with
      | true, _ :: _ => none
      | _, _ => some (.pan v, { tm := tm, dfs := ds ++ fr.dfs }, s)
    | true => none
  | none => none

/-! ### Code -/
def loopN (f : Fr → St → Option (XExit × Fr × St)) : Nat → Fr → St → Option (XExit × Fr × St)
  | 0, _, _ => none
  | k + 1, fr, s => match f fr s with
    | some (.normal, fr', s') => loopN f k fr' s'
    | r => r

/-- what is left to do when a loop over a function has ended. -/
def pendX : Option Code → Option XExit
  | none => some .normal
  | some .ret => some .ret
  | some (.exit i) => some (.exit i)
  | _ => none

/-- a loop over a function: behind its call. -/
def endRange (id : Nat) (fr : Fr) (r : Option CR) : Option (XExit × Fr × St) :=
  match r with
  | some (.ret _ s2) => match s2.get (id + 1) with
    | some (.ho (.lp tm n ps assign body st pend)) => match st, pendX pend with
      | .busy, _ => none
      | _, some x => some (x, { fr with dfs := .mark id :: fr.dfs }, s2.did [id + 1] [(id + 1, .ho (.lp tm n ps assign body .exhausted pend))])
      | _, none => none
    | _ => none
  | some (.pan v s2) => some (.pan v, { fr with dfs := .mark id :: fr.dfs }, s2)
  | none => none

def startRange (n : Nat) (ps : List Nat) (assign body : Code) (tm : Tr AVal) (s : St) : Option St :=
  match s.get s.next, s.get (s.next + 1) with
  | none, none => some (({ s with next := s.next + 16 } : St).did [s.next, s.next + 1] [(s.next, .ho (.dl true)), (s.next + 1, .ho (.lp tm n ps assign body .ready none))])
  | _, _ => none

def evCode (C : CallFn) (imp : Nat → Bool) (P : Program) (k n : Nat) (rd : Bool) : Code → Fr → St → Option (XExit × Fr × St)
  | .skip, fr, s => some (.normal, fr, s)
  | .label _, fr, s => some (.normal, fr, s)
  | .region _ ops draw, fr, s => evRegion C imp P n rd ops draw fr s
  | .seq a b, fr, s => match evCode C imp P k n rd a fr s with
    | some (.normal, fr', s') => evCode C imp P k n rd b fr' s'
    | r => r
  | .cond c a b, fr, s => match operand fr.tm c with
    | some (.p (.bool true)) => evCode C imp P k n rd a fr s
    | some (.p (.bool false)) => evCode C imp P k n rd b fr s
    | _ => none
  | .block id c, fr, s => match evCode C imp P k n rd c fr s with
    | some (.exit i, fr', s') => match Nat.beq i id with
      | true => some (.normal, fr', s')
      | false => some (.exit i, fr', s')
    | r => r
  | .loop c, fr, s => loopN (evCode C imp P k n rd c) k fr s
  | .exit id, fr, s => some (.exit id, fr, s)
  | .scope c, fr, s => match rd with
    | false => evCode C imp P k n rd c fr s
    | true => none
  | .ret, fr, s => some (.ret, fr, s)
  | .rangeFunc g ps assign body, fr, s => match rd, operand fr.tm g with
    | false, some gv => match fnOf gv with
      | some (.func f, cap) => match startRange n ps.toList assign body fr.tm s with
        | some s1 => endRange s.next fr (C (.fn f) (.rf .yld (s.next + 1) :: cap) s1)
        | none => none
      | _ => none
    | _, _ => none
  | _, _, _ => none

/-! ### Functions -/
def resultsA (P : Program) (tm : Tr AVal) (s : St) : List ResultVar → Option (List AVal × List Nat)
  | [] => some ([], [])
  | .tmp t :: r => match operand tm (.tmp t), resultsA P tm s r with
    | some v, some (vs, rd) => some (v :: vs, rd)
    | _, _ => none
  | .cell a t :: r => match operand tm (.tmp a) with
    | some x => match loadOp P s t x, resultsA P tm s r with
      | some e, some (vs, rd) => some (e.v :: vs, e.rd ++ rd)
      | _, _ => none
    | none => none

def resultA (l : List AVal) : AVal :=
  match l with
  | [v] => v
  | l => mkTup l

def argsTm (gl : Tr AVal) : Nat → List AVal → Tr AVal
  | _, [] => gl
  | i, v :: r => (argsTm gl (i + 1) r).set i v

/-! ### What was put off -/
def isRecover : Op → Bool
  | .call { callee := .builtin .recover, .. } => true
  | _ => false

/-- is there a recover in it? -/
def hasRec : Code → Bool
  | .region _ ops _ => ops.toList.any fun o => isRecover o.op
  | .seq a b => hasRec a || hasRec b
  | .cond _ a b => hasRec a || hasRec b
  | .block _ c => hasRec c
  | .loop c => hasRec c
  | .scope c => hasRec c
  | .rangeFunc _ _ a b => hasRec a || hasRec b
  | _ => false

/-- operations of a region in which recover stands. m: the panic that is under way. -/
def evOpsD (P : Program) (n : Nat) (ops : Array Oper) : List Oper → Nat → Tr AVal → St → Option AVal → Option (Tr AVal × St × Option AVal)
  | [], _, tm, s, m => some (tm, s, m)
  | o :: r, b, tm, s, m =>
    match wantedA ops tm o with
    | some true => match isRecover o.op with
      | true => match setDst n tm o.dst (match m with | some v => v | none => .p .nili) with
        | some tm' => evOpsD P n ops r (b + 16) tm' s none
        | none => none
      | false => match plainOp P tm s b o.op with
        | some e => match setDst n tm o.dst e.v with
          | some tm' => evOpsD P n ops r (b + 16) tm' (s.did e.rd e.wr) m
          | none => none
        | none => none
    | some false => match setDst n tm o.dst (.p (.tup [])) with
      | some tm' => evOpsD P n ops r (b + 16) tm' s m
      | none => none
    | none => none

def withM (m : Option AVal) : Option (XExit × Fr × St) → Option (XExit × Fr × St × Option AVal)
  | some (x, fr, s) => some (x, fr, s, m)
  | none => none

def evD (C : CallFn) (imp : Nat → Bool) (P : Program) (k n : Nat) : Code → Fr → St → Option AVal → Option (XExit × Fr × St × Option AVal)
  | .seq a b, fr, s, m => match hasRec (.seq a b) with
    | false => withM m (evCode C imp P k n false (.seq a b) fr s)
    | true => match evD C imp P k n a fr s m with
      | some (.normal, fr', s', m') => evD C imp P k n b fr' s' m'
      | r => r
  | .region id ops draw, fr, s, m => match hasRec (.region id ops draw), draw with
    | true, false => match evOpsD P n ops ops.toList s.next fr.tm { s with next := s.next + 16 * ops.size } m with
      | some (tm, s', m') => some (.normal, { fr with tm }, s', m')
      | none => none
    | true, true => none
    | false, _ => withM m (evCode C imp P k n false (.region id ops draw) fr s)
  | c, fr, s, m => match hasRec c with
    | false => withM m (evCode C imp P k n false c fr s)
    | true => none

/-- a call that was put off; m: the panic that is under way, unless it was recovered. -/
def evDfr (C : CallFn) (gl : Tr AVal) (imp : Nat → Bool) (P : Program) (k f : Nat) (args : List AVal) (s : St) (m : Option AVal) : Option (St × Option AVal) :=
  match P.funcs[f]? with
  | some fn => match fn.body with
    | some c => match Nat.ble args.length glBase, Nat.ble fn.ntmps glBase with
      | true, true => match evD C imp P k (max args.length fn.ntmps) c { tm := argsTm gl 0 args, dfs := [] } s m with
        | some (x, fr, s', m') => match fr.dfs, resultsA P fr.tm s' fn.results.toList, x with
          | [], some (_, rd), .normal => some (s'.did rd [], m')
          | [], some (_, rd), .ret => some (s'.did rd [], m')
          | _, _, _ => none
        | none => none
      | _, _ => none
    | none => none
  | none => none

def evUnwind (C : CallFn) (gl : Tr AVal) (imp : Nat → Bool) (P : Program) (k : Nat) : List Dfr → St → Option AVal → Option (St × Option AVal)
  | [], s, m => some (s, m)
  | .mark id :: r, s, m => match s.get id with
    | some (.ho (.dl true)) => evUnwind C gl imp P k r (s.did [id] [(id, .ho (.dl false))]) m
    | _ => none
  | .call f cap :: r, s, m => match evDfr C gl imp P k f cap s m with
    | some (s', m') => evUnwind C gl imp P k r s' m'
    | none => none

/-- how a function is left. -/
def evLeave (C : CallFn) (gl : Tr AVal) (imp : Nat → Bool) (P : Program) (k : Nat) (fn : Func) (fr : Fr) (s : St) (m : Option AVal) : Option CR :=
  match evUnwind C gl imp P k fr.dfs s m with
  | some (s', none) => match resultsA P fr.tm s' fn.results.toList with
    | some (vs, rd) => some (.ret (resultA vs) (s'.did rd []))
    | none => none
  | some (s', some v) => some (.pan v s')
  | none => none

def evFunc (C : CallFn) (gl : Tr AVal) (imp : Nat → Bool) (P : Program) (k : Nat) (f : Nat) (args : List AVal) (s : St) : Option CR :=
  match P.funcs[f]? with
  | some fn => match fn.body with
    | some c => match Nat.ble args.length glBase, Nat.ble fn.ntmps glBase with
      | true, true => match evCode C imp P k (max args.length fn.ntmps) false c { tm := argsTm gl 0 args, dfs := [] } s with
        | some (.normal, fr, s') => evLeave C gl imp P k fn fr s' none
        | some (.ret, fr, s') => evLeave C gl imp P k fn fr s' none
        | some (.pan v, fr, s') => evLeave C gl imp P k fn fr s' (some v)
        | _ => none
      | _, _ => none
    | none => none
  | none => none

/-! ### Rounds of loops over functions -/
def putArgs (n : Nat) : List Nat → List AVal → Tr AVal → Option (Tr AVal)
  | [], [], tm => some tm
  | p :: ps, v :: vs, tm => match setDst n tm (some p) v with
    | some tm' => putArgs n ps vs tm'
    | none => none
  | _, _, _ => none

/-- the end of a round: how the loop goes on. -/
def endRoundA (id : Nat) (x : XExit) (s : St) : Option CR :=
  match s.get id with
  | some (.ho (.lp tm n ps assign body .busy none)) => match x with
    | .normal => some (.ret (.p (.bool true)) (s.did [id] [(id, .ho (.lp tm n ps assign body .ready none))]))
    | .ret => some (.ret (.p (.bool false)) (s.did [id] [(id, .ho (.lp tm n ps assign body .done (some .ret)))]))
    | .exit i => some (.ret (.p (.bool false)) (s.did [id] [(id, .ho (.lp tm n ps assign body .done (some (.exit i))))]))
    | .pan _ => none
  | _ => none

def evRound (C : CallFn) (imp : Nat → Bool) (P : Program) (k : Nat) (id : Nat) (args : List AVal) (s : St) : Option CR :=
  match s.get id with
  | some (.ho (.lp tm n ps assign body .ready none)) => match putArgs n ps args tm with
    | some tm1 => match evCode C imp P k n true assign { tm := tm1, dfs := [] } (s.did [id] []) with
      | some (.normal, fr1, s1) => match s1.get id with
        | some (.ho (.lp tm' n' ps' assign' body' .ready none)) =>
          match evCode C imp P k n true body fr1 (s1.did [id] [(id, .ho (.lp tm' n' ps' assign' body' .busy none))]) with
          | some (x, _, s3) => endRoundA id x s3
          | none => none
        | _ => none
      | _ => none
    | none => none
  | _ => none

/-- results that are known beforehand. -/
abbrev Memo := Nat → List AVal → Option CR

/-- calls, so many deep. -/
def evCall (M : Memo) (gl : Tr AVal) (imp : Nat → Bool) (P : Program) (k : Nat) : Nat → CallFn
  | 0 => fun _ _ _ => none
  | n + 1 => fun t args s => match t with
    | .fn f => evFunc (evCall M gl imp P k n) gl imp P k f args s
    | .yld id => evRound (evCall M gl imp P k n) imp P k id args s
    | .iso f => match M f args with
      | some r => some r
      | none => evFunc (evCall M gl imp P k n) gl imp P k f args s

end Go.Proofs.YtceccojmekpneaaGreatDoor.Sw
