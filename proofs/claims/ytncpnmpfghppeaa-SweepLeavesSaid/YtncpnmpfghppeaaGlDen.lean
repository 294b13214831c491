/- The tree of a code, computed. -/
import Derived.Test.YtncpnmpfghppeaaGlTree
set_option linter.unusedSimpArgs false
set_option linter.unusedVariables false
namespace Go.Gl
open Go

abbrev PT := (En → Tree) → Tree
/-- a slot whose operation was not wanted -/
def uE : En := .e (.va undef)
def kva (v : Value) : PT := fun κ => κ (.e (.va v))

/-- of one cell, by its kind -/
def eLK : LK → Value → E1
  | .any, v => .op v | _, v => .va v
def eT (P : Program) (t : TypeId) (v : Value) : Option E1 :=
  match kdOf P t with
  | some (.l k) => some (eLK k v)
  | some (.g _) => some (.va v)
  | none => none

def ibits (op : BinOp) (k : IntKind) (x y : Int) : Int :=
  let a := BitVec.ofInt k.bits x
  let b := BitVec.ofInt k.bits y
  k.wrap (match op with | .and => a &&& b | .or => a ||| b | .xor => a ^^^ b | _ => a &&& ~~~b).toNat

def binInt (op : BinOp) (k k' : IntKind) (a b : Int) : Option PT :=
  match op with
  | .shl => some fun κ => need (0 ≤ b) (kva (.int k (k.wrap (a * 2 ^ (min b.toNat k.bits)))) κ)
  | .shr => some fun κ => need (0 ≤ b) (kva (.int k (a.fdiv (2 ^ (min b.toNat k.bits)))) κ)
  | op =>
    if k = k' then
      match op with
      | .add => some (kva (.int k (k.wrap (a + b))))
      | .sub => some (kva (.int k (k.wrap (a - b))))
      | .mul => some (kva (.int k (k.wrap (a * b))))
      | .quo => some fun κ => need (b ≠ 0) (kva (.int k (k.wrap (a.tdiv b))) κ)
      | .rem => some fun κ => need (b ≠ 0) (kva (.int k (a.tmod b)) κ)
      | .and => some (kva (.int k (ibits .and k a b)))
      | .or => some (kva (.int k (ibits .or k a b)))
      | .xor => some (kva (.int k (ibits .xor k a b)))
      | .andNot => some (kva (.int k (ibits .andNot k a b)))
      | .eql => some (kva (.bool (a == b)))
      | .neq => some (kva (.bool (a != b)))
      | .lss => some (kva (.bool (decide (a < b))))
      | .leq => some (kva (.bool (decide (a ≤ b))))
      | .gtr => some (kva (.bool (decide (a > b))))
      | .geq => some (kva (.bool (decide (a ≥ b))))
      | _ => none
    else none

def boolOf : E1 → Option Bool
  | .tt => some true | .ff => some false | .va (.bool b) => some b | _ => none

/-- '==' of the fields of two structs of plain cells -/
def eqFields (P : Program) : List Field → List Value → List Value → Option Bool
  | [], _, _ => some true
  | f :: fs, xs, ys =>
    if f.name = "_" then none else
    match P.underlying f.type, xs[f.offset]?, ys[f.offset]?, eqFields P fs xs ys with
    | some (.int _), some (.int k a), some (.int k' b), some r => if k = k' then some ((a == b) && r) else none
    | some .bool, some (.bool a), some (.bool b), some r => some ((a == b) && r)
    | _, _, _, _ => none

def isPtrT (P : Program) (t : TypeId) : Bool := match P.underlying t with | some (.pointer _) => true | _ => false
def isSlcT (P : Program) (t : TypeId) : Bool := match P.underlying t with | some (.slice _) => true | _ => false
def isBoolT (P : Program) (t : TypeId) : Bool := match P.underlying t with | some .bool => true | _ => false

def binE (P : Program) (op : BinOp) (t : TypeId) (x y : E1) : Option PT :=
  match x, y with
  | .va (.int k a), .va (.int k' b) => binInt op k k' a b
  | .pa _, .va (.pointer none) => if isPtrT P t then match op with
      | .eql => some fun κ => κ (.e .ff) | .neq => some fun κ => κ (.e .tt) | _ => none
    else none
  | .va (.pointer p), .va (.pointer none) => if isPtrT P t then match op with
      | .eql => some (kva (.bool p.isNone)) | .neq => some (kva (.bool (!p.isNone))) | _ => none
    else none
  | .va (.slice p _ _), .va (.slice none _ _) => if isSlcT P t then match op with
      | .eql => some (kva (.bool p.isNone)) | .neq => some (kva (.bool (!p.isNone))) | _ => none
    else none
  | .va (.string a), .va (.string b) => match op with
    | .eql => some (kva (.bool (a.toList == b.toList))) | .neq => some (kva (.bool (!(a.toList == b.toList)))) | _ => none
  | .va (.agg xs), .va (.agg ys) =>
    if P.eqGuardType P.depth t || P.stoodInHeld t then none else
    match P.underlying t with
    | some (.struct fs) => match eqFields P fs.toList xs.toList ys.toList, op with
      | some r, .eql => some (kva (.bool r)) | some r, .neq => some (kva (.bool (!r))) | _, _ => none
    | _ => none
  | x, y => if isBoolT P t then match op, boolOf x, boolOf y with
      | .eql, some a, some b => some (kva (.bool (a == b)))
      | .neq, some a, some b => some (kva (.bool (!(a == b))))
      | _, _, _ => none
    else none

def valsOf (env : Env) : List Operand → Option (List Value)
  | [] => some [] | x :: xs => match (e1 env x).v, valsOf env xs with | some v, some vs => some (v :: vs) | _, _ => none
def partsOf (env : Env) : List (Nat × Operand) → Option (List (Nat × Value))
  | [] => some [] | (i, x) :: xs => match (e1 env x).v, partsOf env xs with | some v, some vs => some ((i, v) :: vs) | _, _ => none

def sizeOfT (P : Program) (t : TypeId) : Option Nat := (P.info? t).map (·.size)
def placesOf (P : Program) : List Field → Option (List (Nat × Nat))
  | [] => some [] | f :: fs => match sizeOfT P f.type, placesOf P fs with | some n, some ps => some ((f.offset, n) :: ps) | _, _ => none
def isAggT (P : Program) (t : TypeId) : Option Bool := (P.underlying t).map fun | .struct _ | .array _ _ => true | _ => false
def zc (P : Program) (t : TypeId) : List Value := match (P.info? t).bind (·.zero) with | some z => z.cells.toList | none => []

/-- the parts of a composite, laid over its zero -/
def fillL (place : Nat → Option (Nat × Nat)) (cells : List Value) : List (Nat × Value) → Option (List Value)
  | [] => some cells
  | (i, v) :: rest => match place i with
    | none => none
    | some (off, size) =>
      if v.cells.size ≠ size || off + v.cells.size > cells.length then none
      else fillL place (v.cells.toList.zipIdx.foldl (fun cs (c, j) => cs.set (off + j) c) cells) rest

def minI (op : Bool) (k : IntKind) (x y : Int) : Value := .int k (if op then (if y > x then y else x) else (if y < x then y else x))
def minL (op : Bool) : Value → List Value → Option Value
  | v, [] => some v
  | .int k x, .int _ y :: r => minL op (minI op k x y) r
  | _, _ => none

def intE (e : E1) : Option Int := match e with | .va (.int _ j) => some j | _ => none
def loE (env : Env) (lo : Option Operand) : Option Int := match lo with | none => some 0 | some y => intE (e1 env y)
def hiE (env : Env) (hi : Option Operand) (n : Nat) : Option Int := match hi with | none => some (n : Int) | some y => intE (e1 env y)

/-- operations that hang on no memory and leave it alone -/
def denPure (P : Program) (o : Oper) (env : Env) : Option PT :=
  match o.op with
  | .move x | .assign x => some fun κ => κ (ev env x)
  | .pick c x y => match e1 env c with
    | .tt => some fun κ => κ (ev env x)
    | .ff => some fun κ => κ (ev env y)
    | .va (.bool b) => some fun κ => br b (κ (ev env x)) (κ (ev env y))
    | _ => none
  | .nilCheck x => match e1 env x with
    | .pa a => some fun κ => κ (.e (.pa a))
    | .va (.pointer p) => some fun κ => nn p fun a => κ (.e (.pa a))
    | .va (.func (.func f) i c) => some fun κ => κ (.e (.va (.func (.func f) i c)))
    | .op v => some fun κ => fnc v fun _ _ => κ (.e (.op v))
    | _ => none
  | .binOp op t x y _ => binE P op t (e1 env x) (e1 env y)
  | .unOp op _ x => match op, e1 env x with
    | .not, .tt => some fun κ => κ (.e .ff)
    | .not, .ff => some fun κ => κ (.e .tt)
    | .not, .va (.bool b) => some (kva (.bool !b))
    | .neg, .va (.int k n) => some (kva (.int k (k.wrap (0 - n))))
    | _, _ => none
  | .convert s d x => match P.underlying s, P.underlying d, e1 env x with
    | some (.int _), some (.int k), .va (.int _ n) => some (kva (.int k (k.wrap n)))
    | _, _, _ => none
  | .fieldAddr s x f => match P.underlying s, e1 env x with
    | some (.struct fs), .pa a => match fs.toList[f]? with
      | some fd => match sizeOfT P fd.type with
        | some (_ + 1) => some fun κ => κ (.e (.pa (fa a fd.offset)))
        | _ => none
      | none => none
    | _, _ => none
  | .field t x f => match P.underlying t, e1 env x with
    | some (.struct fs), .va (.agg cs) => match fs.toList[f]? with
      | some fd => match isAggT P fd.type, sizeOfT P fd.type with
        | some true, some n => some (kva (.agg ((cs.toList.drop fd.offset).take n).toArray))
        | some false, _ => match cs.toList[fd.offset]? with
          | some v => match eT P fd.type v with | some e => some fun κ => κ (.e e) | none => none
          | none => none
        | _, _ => none
      | none => none
    | _, _ => none
  | .indexAddr t x i => match P.underlying t, e1 env x, e1 env i with
    | some (.slice e), .va (.slice a n _), .va (.int _ j) => match sizeOfT P e with
      | some m => some fun κ => ix a n j m fun b => κ (.e (.pa b))
      | none => none
    | some (.array n e), .pa a, .va (.int _ j) => match sizeOfT P e with
      | some m => some fun κ => ix (some a) n j m fun b => κ (.e (.pa b))
      | none => none
    | _, _, _ => none
  | .extract x i => match ev env x with
    | .tup es => match E1.vs es, es[i]? with | some _, some e => some fun κ => κ (.e e) | _, _ => none
    | _ => none
  | .makeFunc fn first cap => match fn, valsOf env first.toList, valsOf env cap.toList with
    | .func f, some [], some vs => some (kva (.func (.func f) #[] vs.toArray))
    | _, _, _ => none
  | .build t ps => match P.underlying t, partsOf env ps.toList, (P.info? t).bind (·.zero) with
    | some (.struct fs), some vs, some z => match placesOf P fs.toList with
      | some pl => match fillL (pl[·]?) z.cells.toList vs with | some cs => some (kva (.agg cs.toArray)) | none => none
      | none => none
    | some (.array _ e), some vs, some z => match sizeOfT P e with
      | some m => match fillL (fun i => some (i * m, m)) z.cells.toList vs with | some cs => some (kva (.agg cs.toArray)) | none => none
      | none => none
    | _, _, _ => none
  | .slice t x lo hi mx => match mx, P.underlying t, e1 env x with
    | none, some (.slice e), .va (.slice a n c) => match sizeOfT P e, loE env lo, hiE env hi n with
      | some m, some l, some h => some fun κ => slc a c l h m fun r => κ (.e (.va (.slice r.a r.n r.c)))
      | _, _, _ => none
    | _, _, _ => none
  | .call c => match c.callee with
    | .builtin .len => match (c.argTypes.toList[0]?).bind P.underlying, c.args.toList.map (e1 env) with
      | some (.slice _), [.va (.slice _ n _)] => some (kva (.int .i64 (n : Int)))
      | some .string, [.va (.string s)] => some (kva (.int .i64 (s.size : Int)))
      | _, _ => none
    | .builtin .max => match valsOf env c.args.toList with
      | some (v :: vs) => match minL true v vs with | some r => some (kva r) | none => none
      | _ => none
    | .builtin .min => match valsOf env c.args.toList with
      | some (v :: vs) => match minL false v vs with | some r => some (kva r) | none => none
      | _ => none
    | _ => none
  | _ => none

/-- does a type's kind bear just its cells? -/
def kdFits (P : Program) (t : TypeId) : Bool := match kdOf P t, sizeOfT P t with | some (.g ks), some n => ks.length == n | some (.l _), _ => true | _, _ => false

/-- no function is one of the run-time's that answers by itself -/
def plainNames (P : Program) : Bool := P.funcs.toList.all fun fn => !(fn.name == "runtime.NumGoroutine")

def callD (P : Program) (f : FuncId) (args : List Value) (κ : En → Tree) : Tree :=
  match P.funcs[f]? with
  | some fn => if fn.body.isSome then match rkOf P fn.resultTypes.toList with
      | some rk => call P f args rk fun r => κ (rk.en r)
      | none => bad
    else bad
  | none => bad

def loadD (P : Program) (t : TypeId) (a : Addr) (κ : En → Tree) : Tree :=
  if kdFits P t then match kdOf P t with | some kd => ld kd a fun x => κ (.e (kd.en x)) | none => bad else bad
def cellsE (e : E1) : Option (List Value) := e.v.map fun v => v.cells.toList
def storeD (P : Program) (t : TypeId) (a : Addr) (e : E1) (κ : En → Tree) : Tree :=
  match cellsE e, sizeOfT P t with
  | some vs, some n => if vs.length = n then st a vs (κ nE) else bad
  | _, _ => bad

/-- operations that read memory, write it, or run code -/
def denEff (P : Program) (o : Oper) (env : Env) (κ : En → Tree) : Tree :=
  match o.op with
  | .load t x => match e1 env x with
    | .pa a => loadD P t a κ
    | .va (.pointer p) => nn p fun a => loadD P t a κ
    | _ => bad
  | .store t x v => match e1 env x with
    | .pa a => storeD P t a (e1 env v) κ
    | .va (.pointer p) => nn p fun a => storeD P t a (e1 env v) κ
    | _ => bad
  | .alloc t => match (P.info? t).bind (·.zero) with
    | some _ => nw t (zc P t) fun b => κ (.e (.pa ⟨b, 0, none⟩))
    | none => bad
  | .box t x => match cellsE (e1 env x) with
    | some vs => nw t vs fun b => κ (.e (.pa ⟨b, 0, none⟩))
    | none => bad
  | .buildSlice t n ps => match P.underlying t with
    | some (.slice e) => match sizeOfT P e, (P.info? e).bind (·.zero), partsOf env ps.toList with
      | some m, some z, some vs =>
        if n * m > 2 ^ 24 then bad else
        match fillL (fun i => some (i * m, m)) ((List.replicate n z.cells.toList).flatten) vs with
        | some cs => if z.cells.size = m then nw e cs fun b => κ (.e (.va (.slice (some ⟨b, 0, none⟩) n n))) else bad
        | none => bad
      | _, _, _ => bad
    | _ => bad
  | .makeMap t r => match r, P.underlying t with
    | none, some (.map _ _) => nwM fun b => κ (.e (.va (.map (some b))))
    | _, _ => bad
  | .makeSlice t l c => match (e1 env l).v, (e1 env c).v with
    | some lv, some cv => opr P (Instr.makeSlice t lv cv) (.one (.l .slice)) fun r => κ (.e (.va (.slice r.a r.n r.c)))
    | _, _ => bad
  | .lookup t x i ok => match (e1 env x).v, (e1 env i).v, P.underlying t with
    | some xv, some iv, some (.map _ et) => match kdOf P et with
      | some kd => if ok then opr P (Instr.lookup t xv iv true) (.many [kd, .l .bool]) fun r => κ (.tup [kd.en r.1, .va (.bool r.2.1)])
        else opr P (Instr.lookup t xv iv false) (.one kd) fun r => κ (.e (kd.en r))
      | none => bad
    | _, _, _ => bad
  | .mapUpdate t m k x | .insert t m k x => match (e1 env m).v, (e1 env k).v, (e1 env x).v with
    | some mv, some kv, some xv => oprU P (Instr.mapUpdate t mv kv xv) (κ nE)
    | _, _, _ => bad
  | .range t x => match (e1 env x).v, P.underlying t with
    | some xv, some (.map k e) => match kdOf P k, kdOf P e with
      | some kk, some kv => opr P (Instr.range t xv) (.one (.l .ptr)) fun r => κ (.e (.it (.pointer r) kk kv))
      | _, _ => bad
    | _, _ => bad
  | .next x str => match str, e1 env x with
    | false, .it v kk kv => nxt P (Instr.next v false o.type) kk kv (κ (.tup [.ff])) fun k v => κ (.tup [.tt, kk.en k, kv.en v])
    | _, _ => bad
  | .entry x => match e1 env x with
    | .it v kk kv => opr P (Instr.entry v) (.many [kk, kv]) fun r => κ (.tup [kk.en r.1, kv.en r.2.1])
    | _ => bad
  | .call c => match valsOf env c.args.toList with
    | none => bad
    | some vs => match c.callee with
      | .value f => match e1 env f with
        | .va (.func (.func f) i c) => callD P f (i.toList ++ vs ++ c.toList) κ
        | .op v => match kdOf P o.type with
          | some kd => callV P v vs (.one kd) fun r => κ (.e (kd.en r))
          | none => bad
        | _ => bad
      | .builtin .append => opr P (Builtin.append_ c.argTypes o.type vs.toArray) (.one (.l .slice)) fun r => κ (.e (.va (.slice r.a r.n r.c)))
      | .builtin .clear => opr P (Builtin.clear_ c.argTypes o.type vs.toArray) (.many []) fun _ => κ nE
      | .builtin .delete => opr P (Builtin.delete_ c.argTypes o.type vs.toArray) (.many []) fun _ => κ nE
      | .builtin .copy => opr P (Builtin.copy_ c.argTypes o.type vs.toArray) (.one (.l (.int .i64))) fun n => κ (.e (.va (.int .i64 n)))
      | _ => bad
  | _ => bad

def denOp (P : Program) (o : Oper) (env : Env) (κ : En → Tree) : Tree :=
  match denPure P o env with
  | some pt => pt κ
  | none => denEff P o env κ

/-- the operations of a region in the order of the text -/
def denL (P : Program) (ops : Array Oper) : List Oper → Env → (Env → Tree) → Tree
  | [], env, K => K env
  | o :: rest, env, K =>
    let go (env : Env) : Tree := denOp P o env fun e => denL P ops rest (setE env o.dst e) K
    let skip (env : Env) : Tree := denL P ops rest (setE env o.dst uE) K
    match o.guard with
    | none => go env
    | some (j, want) => match (ops.toList[j]?).bind (·.dst) with
      | none => bad
      | some d => match env.getD d nE with
        | .e .tt => if want then go env else skip env
        | .e .ff => if want then skip env else go env
        | .e (.va (.tuple _)) => skip env
        | .e (.va (.bool b)) => br b (if want then go (env.set d (.e .tt)) else skip (env.set d (.e .tt))) (if want then skip (env.set d (.e .ff)) else go (env.set d (.e .ff)))
        | _ => bad

/-- orders of a region that draws: one operation next (does it wait for all loads?), or whichever of two -/
inductive HT | nil | go (i : Nat) (b : Bool) (t : HT) | two (x y : HT)
/-- how a region is gone through -/
inductive Mode | quiet | tail (n : Nat) | held (bar : Option Nat) (order : HT)

def both (x y : Tree) : Tree := fun Q w => x Q w ∧ y Q w
def chk (S : World → Prop) (t : Tree) : Tree := fun Q w => S w ∧ t Q w

/-- a region that draws: the operations in an order in which each may come up; quiet ones are taken first, all that comes else waits -/
def denH (P : Program) (ops : Array Oper) (S : World → Prop) : Bool → HT → Env → (Env → Tree) → Tree
  | _, .nil, env, K => K env
  | post, .two x y, env, K => both (denH P ops S post x env K) (denH P ops S post y env K)
  | post, .go i b rest, env, K =>
    match ops.toList[i]? with
    | none => bad
    | some o =>
      let next (env : Env) (e : En) : Tree := denH P ops S (post || b) rest (setE env o.dst e) K
      let go (env : Env) : Tree := match denPure P o env with
        | some pt => pt (next env)
        | none => match o.op with
          | .load t x => if kdFits P t then match e1 env x, kdOf P t with
            | .pa a, some kd => ldS S kd a fun r => next env (.e (kd.en r))
            | .va (.pointer p), some kd => nn p fun a => ldS S kd a fun r => next env (.e (kd.en r))
            | _, _ => bad
            else bad
          | _ => denEff P o env fun e => bif post || b then next env e else chk S (next env e)
      match o.guard with
      | none => go env
      | some (j, want) => match (ops.toList[j]?).bind (·.dst) with
        | none => bad
        | some d => match env.getD d nE with
          | .e .tt => if want then go env else next env uE
          | .e .ff => if want then next env uE else go env
          | .e (.va (.tuple _)) => next env uE
          | .e (.va (.bool b)) => br b (if want then go (env.set d (.e .tt)) else next (env.set d (.e .tt)) uE) (if want then next (env.set d (.e .ff)) uE else go (env.set d (.e .ff)))
          | _ => bad
def held (k : (World → Prop) → Tree) : Tree := fun Q w => ∃ S : World → Prop, S w ∧ k S Q w
/-- the tape is asked for an order -/
def drw (t : Tree) : Tree := fun Q w => t Q { w with drawn := w.drawn + 1 }

def E1.unval (k : LK) (e : E1) : Option (LT k) :=
  match k, e with
  | .int k, .va (.int k' n) => if k = k' then some n else none
  | .bool, .tt => some true | .bool, .ff => some false | .bool, .va (.bool b) => some b
  | .str, .va (.string s) => some s
  | .ptr, .pa a => some (some a) | .ptr, .va (.pointer p) => some p
  | .slice, .va (.slice a n c) => some ⟨a, n, c⟩
  | .map, .va (.map r) => some r
  | .adr, .pa a => some a
  | .any, .op v => some v | .any, .va v => some v
  | _, _ => none

def unvals (env : Env) : (tab : List (Nat × LK)) → Option (LTs (tab.map (·.2)))
  | [] => some ()
  | (t, k) :: tab => match env.getD t nE with
    | .e x => match x.unval k, unvals env tab with | some v, some vs => some (v, vs) | _, _ => none
    | _ => none
def setVals : (tab : List (Nat × LK)) → LTs (tab.map (·.2)) → Env → Env
  | [], _, env => env
  | (t, k) :: tab, s, env => setVals tab s.2 (env.set t (.e (k.en s.1)))

def writes : Code → List Nat
  | .region _ ops _ => ops.toList.filterMap (·.dst)
  | .seq a b | .cond _ a b => writes a ++ writes b
  | .block _ c | .loop c | .scope c => writes c
  | _ => []
def wipe (env : Env) : List Nat → Env
  | [] => env | t :: ts => wipe (env.set t nE) ts

def firstId : Code → Option Nat
  | .region id _ _ => some id
  | .seq a b => match firstId a with | some i => some i | none => firstId b
  | .cond _ a b => match firstId a with | some i => some i | none => firstId b
  | .block _ c | .loop c | .scope c => firstId c
  | _ => none

structure Kont where
  norm : Env → Tree
  exit : Nat → Env → Tree
  ret : Env → Tree

structure Tabs where
  loop : Nat → List (Nat × LK)
  join : Nat → Option (List (Nat × LK))
  mode : Nat → Mode

def joinOf (T : Tabs) (c : Code) : Option (List (Nat × LK)) := match firstId c with | some i => T.join i | none => none
def tabOf (T : Tabs) (c : Code) : List (Nat × LK) := match firstId c with | some i => T.loop i | none => []

def den (P : Program) (T : Tabs) : Code → Env → Kont → Tree
  | .skip, env, K => K.norm env
  | .region _ ops false, env, K => denL P ops ops.toList env K.norm
  | .region id ops true, env, K => match T.mode id with
    | .held _ l => drw (held fun S => denH P ops S false l env K.norm)
    | _ => drw (denL P ops ops.toList env K.norm)
  | .seq a b, env, K => match joinOf T b with
    | none => den P T a env { K with norm := fun env => den P T b env K }
    | some tab => jn (fun s => den P T b (setVals tab s (wipe env (writes a))) K) fun X => den P T a env { K with norm := fun env' => match unvals env' tab with | some s' => X s' | none => bad }
  | .cond c a b, env, K => match e1 env c with
    | .tt => den P T a env K
    | .ff => den P T b env K
    | .va (.bool x) => br x (den P T a env K) (den P T b env K)
    | _ => bad
  | .block id c, env, K => den P T c env { K with exit := fun i env => if i = id then K.norm env else K.exit i env }
  | .loop c, env, K => match unvals env (tabOf T c) with
    | none => bad
    | some s => lp ((tabOf T c).map (·.2)) (fun X s => den P T c (setVals (tabOf T c) s (wipe env (writes c))) { K with norm := fun env' => match unvals env' (tabOf T c) with | some s' => X s' | none => bad }) s
  | .exit i, env, K => K.exit i env
  | .ret, env, K => K.ret env
  | _, _, _ => bad

def packR : List Value → Value
  | [v] => v | vs => .tuple vs.toArray
def resT (P : Program) (env : Env) : List ResultVar → List Value → Tree
  | [], vs => ret (packR vs)
  | .tmp t :: rs, vs => match (env.getD t nE).v with | some v => resT P env rs (vs ++ [v]) | none => bad
  | .cell a t :: rs, vs => if kdFits P t then match env.getD a nE, kdOf P t with
      | .e (.pa ad), some kd => ld kd ad fun x => resT P env rs (vs ++ [kd.val x])
      | _, _ => bad
    else bad

def argEnv : (ks : List KD) → KTs ks → List E1 := kens
def env0 (es : List E1) (n : Nat) : Env := es.map En.e ++ List.replicate (n - es.length) nE

/-- the tree of a function at its arguments -/
def denF (P : Program) (T : Tabs) (fn : Func) (args : List E1) : Tree :=
  match fn.body with
  | some c => den P T c (env0 args fn.ntmps) { norm := fun env => resT P env fn.results.toList [], exit := fun _ _ => bad, ret := fun env => resT P env fn.results.toList [] }
  | none => bad

end Go.Gl
