/- An abstract interpreter for the translated code: values, heap, operations, code. Plain definitions over any program. -/
import Derived.Calls
import Derived.RangeFuncRecord
import Derived.Laws.CopyRow
set_option linter.unusedVariables false
set_option linter.unusedSimpArgs false
set_option linter.unusedSectionVars false
set_option linter.deprecated false
namespace Go.Ab

/-- Abstract values. 'row': a slice that is read as a list of cells ('nl': it is nil; 'fl': its capacity is its length; 'tok': who holds the living token may append). 'slice': a slice that is written in place. -/
inductive V where
  | undef
  | bool (b : Bool)
  | int (k : IntKind) (n : Int)
  | str (s : List UInt8)
  | row (nl fl : Bool) (cs : List V) (n : Nat) (tok : Option Nat)
  | rptr (cs : List V)
  | ptr (a off : Nat)
  | nilptr
  | slice (a off len sz : Nat)
  | map (a : Nat)
  | nilmap
  | func (fn : Fn) (first captured : List V)
  | nilfunc
  | yld (a : Nat)
  | iface (t : TypeId) (v : V)
  | niliface
  | agg (cs : List V)
  | tuple (vs : List V)
  deriving Inhabited

/-- Is it a value of one cell (and known)? -/
def V.one : V → Bool
  | .undef | .agg _ | .tuple _ => false
  | _ => true

/-- The cells of a value: none where one of them is no value of one cell. -/
def V.cellsO : V → Option (List V)
  | .agg cs => if cs.all V.one then some cs else none
  | v => if v.one then some [v] else none

/-- A value as the program's text or its tables have it. -/
def ofVal : Value → V
  | .bool b => .bool b
  | .int k n => .int k n
  | .string s => .str s.data.toList
  | .slice none 0 0 => .row true true [] 0 none
  | .pointer none => .nilptr
  | .map none => .nilmap
  | .nilFunc => .nilfunc
  | .nilIface => .niliface
  | .tuple ⟨[]⟩ => .tuple []
  | _ => .undef

/-- The cells of a zero value. -/
def ofZero (v : Value) : List V := v.cells.toList.map ofVal

inductive Blk where
  | cells (cs : List V)
  | frozen (cs : List V)
  | dead
  | map (es : List (V × V × Nat)) (clock : Nat)
  | loop (t : List V) (params : List Nat) (assign body : Code) (state : LoopState) (pending : Option Code) (db : Nat)
  | dfr (isOpen : Bool)
  deriving Inhabited

structure Heap where
  bs : List Blk
  ts : List (Option Nat)

inductive Def where
  | call (fv : V) (args : List V)
  | mark (a : Nat)

inductive Pan where
  | no
  | pan (v : V)
  | got (v : V)

structure St where
  t : List V
  h : Heap
  d : List Def
  p : Pan
  ro : Option Nat

inductive Ax where
  | normal
  | exit (id : Nat)
  | ret
  | panic (v : V)

inductive CRes where
  | ret (v : V)
  | panic (v : V)

/-- What one operation asks for. -/
inductive OR where
  | val (v : V) (h : Heap)
  | skip (h : Heap)
  | dfr (d : Def)
  | pan (v : V)
  | recover
  | call (fv : V) (args : List V)

structure Cfg where
  P : Program
  pure : FuncId → Bool
  ext : FuncId → List V → Option CRes
  glob : Nat → Option (List V)
  kill : Bool
  /-- the places of appends of which the outcome is to be written in place -/
  blk : String → Bool

def evT (c : Cfg) (t : List V) : Operand → V
  | .tmp i => t.getD i .undef
  | .const v => ofVal v
  | .global g => match c.glob g with
    | some cs => .rptr cs
    | none => .undef
  | .func f => .func (.func f) [] []

def putT (t : List V) (dst : Option Tmp) (v : V) : List V :=
  match dst with
  | some d => t.set d v
  | none => t

section ops
variable (P : Program)

def szO (t : TypeId) : Option Nat := (P.info? t).map (·.size)
def bytesO (t : TypeId) : Option Nat := (P.info? t).map (·.bytes)
def zeroO (t : TypeId) : Option Value := (P.info? t).bind (·.zero)

/-- the zero value's cells, all known and as many as the type has. -/
def zeroCs (t : TypeId) : Option (List V) :=
  match P.info? t with
  | some i => match i.zero with
    | some z => if (ofZero z).all V.one && (ofZero z).length == i.size then some (ofZero z) else none
    | none => none
  | none => none

def isAggO (t : TypeId) : Option Bool :=
  match P.underlying t with
  | some (.struct _) | some (.array _ _) => some true
  | some _ => some false
  | none => none

/-- cells back to a value of a type -/
def packV (t : TypeId) (cs : List V) : Option V :=
  match isAggO P t with
  | some true => some (.agg cs)
  | some false => match cs with
    | [v] => some v
    | _ => none
  | none => none

def fieldOf (s : TypeId) (f : Nat) : Option Field :=
  match P.underlying s with
  | some (.struct fs) => fs[f]?
  | _ => none

/-- a field's place, type and size -/
def fieldO (s : TypeId) (f : Nat) : Option (Nat × TypeId × Nat) :=
  match fieldOf P s f with
  | some fd => (szO P fd.type).map fun n => (fd.offset, fd.type, n)
  | none => none

/-- the places of a struct's fields -/
def placesO (t : TypeId) : Option (List (Nat × Nat)) :=
  match P.underlying t with
  | some (.struct fs) => fs.toList.mapM (fun f => (P.info? f.type).map fun i => (f.offset, i.size))
  | _ => none

def elemOfSlice (t : TypeId) : Option TypeId :=
  match P.underlying t with
  | some (.slice e) => some e
  | _ => none

/-- n cells from a pointer on. -/
def readP (h : Heap) (p : V) (n : Nat) : Option (List V) :=
  match p with
  | .ptr a off => match h.bs[a]? with
    | some (.cells cs) | some (.frozen cs) => if off + n ≤ cs.length then some ((cs.drop off).take n) else none
    | _ => none
  | .rptr cs => if n ≤ cs.length then some (cs.take n) else none
  | _ => none

def loadP (h : Heap) (t : TypeId) (p : V) : Option V :=
  match isAggO P t with
  | some true => match szO P t with
    | some n => (readP h p n).map .agg
    | none => none
  | some false => match readP h p 1 with
    | some [v] => some v
    | _ => none
  | none => none

/-- cells written from a place on -/
def writeL : List V → Nat → List V → List V
  | cs, _, [] => cs
  | cs, i, v :: vs => writeL (cs.set i v) (i + 1) vs

def storeP (h : Heap) (t : TypeId) (p v : V) : Option Heap :=
  match p, szO P t, v.cellsO with
  | .ptr a off, some n, some vs =>
    if vs.length = n then
      match h.bs[a]? with
      | some (.cells cs) => if off + n ≤ cs.length then some { h with bs := h.bs.set a (.cells (writeL cs off vs)) } else none
      | _ => none
    else none
  | _, _, _ => none

def newB (h : Heap) (b : Blk) : Heap := { h with bs := h.bs ++ [b] }

def fillL (place : Nat → Option (Nat × Nat)) (cs : List V) : List (Nat × V) → Option (List V)
  | [] => some cs
  | (i, v) :: rest =>
    match place i, v.cellsO with
    | some (off, sz), some vs => if vs.length = sz ∧ off + sz ≤ cs.length then fillL place (writeL cs off vs) rest else none
    | _, _ => none

def buildV (t : TypeId) (parts : List (Nat × V)) : Option V :=
  match zeroCs P t, P.underlying t with
  | some z, some (.struct _) => match placesO P t with
    | some places => (fillL (places.toArray[·]?) z parts).map .agg
    | none => none
  | some z, some (.array _ e) => match szO P e with
    | some n => (fillL (fun i => some (i * n, n)) z parts).map .agg
    | none => none
  | _, _ => none

def buildSliceV (t : TypeId) (len : Nat) (parts : List (Nat × V)) : Option V :=
  match elemOfSlice P t with
  | some e => match szO P e, zeroCs P e with
    | some n, some z => if len * n ≤ 65536 then
        (fillL (fun i => some (i * n, n)) ((List.replicate len z).flatten) parts).map fun cs => .row false true cs len none
      else none
    | _, _ => none
  | none => none

/-- whole numbers as operands -/
def intOf? : V → Option Int
  | .int _ n => some n
  | _ => none

def cmpI (op : BinOp) (a b : Int) : Option V :=
  match op with
  | .eql => some (.bool (a == b))
  | .neq => some (.bool (a != b))
  | .lss => some (.bool (a < b))
  | .leq => some (.bool (a ≤ b))
  | .gtr => some (.bool (a > b))
  | .geq => some (.bool (a ≥ b))
  | _ => none

def arithI (op : BinOp) (k : IntKind) (a b : Int) : Option V :=
  match op with
  | .add => some (.int k (k.wrap (a + b)))
  | .sub => some (.int k (k.wrap (a - b)))
  | .mul => some (.int k (k.wrap (a * b)))
  | .quo => if b = 0 then none else some (.int k (k.wrap (a.tdiv b)))
  | .rem => if b = 0 then none else some (.int k (a.tmod b))
  | .and => some (.int k (k.wrap (BitVec.ofInt k.bits a &&& BitVec.ofInt k.bits b).toNat))
  | .or => some (.int k (k.wrap (BitVec.ofInt k.bits a ||| BitVec.ofInt k.bits b).toNat))
  | .xor => some (.int k (k.wrap (BitVec.ofInt k.bits a ^^^ BitVec.ofInt k.bits b).toNat))
  | .andNot => some (.int k (k.wrap (BitVec.ofInt k.bits a &&& ~~~(BitVec.ofInt k.bits b)).toNat))
  | .eql | .neq | .lss | .leq | .gtr | .geq => cmpI op a b
  | _ => none

def shiftI (op : BinOp) (k : IntKind) (a b : Int) : Option V :=
  if b < 0 then none
  else match op with
    | .shl => some (.int k (k.wrap (a * 2 ^ (min b.toNat k.bits))))
    | .shr => some (.int k (a.fdiv (2 ^ (min b.toNat k.bits))))
    | _ => none

def strLess : List UInt8 → List UInt8 → Bool
  | _, [] => false
  | [], _ :: _ => true
  | a :: x, b :: y => a < b || (a == b && strLess x y)

def strOp (op : BinOp) (a b : List UInt8) : Option V :=
  match op with
  | .add => if a.length + b.length ≤ 4611686018427387904 then some (.str (a ++ b)) else none
  | .eql => some (.bool (a == b))
  | .neq => some (.bool !(a == b))
  | .lss => some (.bool (strLess a b))
  | .leq => some (.bool (strLess a b || a == b))
  | .gtr => some (.bool !(strLess a b || a == b))
  | .geq => some (.bool !(strLess a b))
  | _ => none

/-- two single cells of a plain type (bool, int, string) -/
def eqCell (t : TypeId) (x y : V) : Option Bool :=
  match P.underlying t, x, y with
  | some .bool, .bool a, .bool b => some (a == b)
  | some (.int _), .int k a, .int k' b => if k = k' then some (a == b) else none
  | some .string, .str a, .str b => some (a == b)
  | _, _, _ => none

def eqFields (xs ys : List V) : List Field → Option Bool
  | [] => some true
  | f :: fs =>
    if f.name ≠ "_" then
      match xs[f.offset]?, ys[f.offset]?, isAggO P f.type with
      | some x, some y, some false => match eqCell P f.type x y with
        | some true => eqFields xs ys fs
        | some false => some false
        | none => none
      | _, _, _ => none
    else eqFields xs ys fs

def eqElems (e : TypeId) : List V → List V → Option Bool
  | [], [] => some true
  | x :: xs, y :: ys => match eqCell P e x y with
    | some true => eqElems e xs ys
    | some false => some false
    | none => none
  | _, _ => none

def isConst : Operand → Bool
  | .const _ => true
  | _ => false

def isPtrLike : V → Bool
  | .ptr _ _ | .rptr _ => true
  | _ => false

/-- '==' where no order of two numbers or texts is asked. -/
def eqV (cst : Bool) (t : TypeId) (x y : V) : Option Bool :=
  match P.underlying t, x, y with
  | some .bool, .bool a, .bool b => some (a == b)
  | some (.pointer _), .nilptr, .nilptr => some true
  | some (.pointer _), .nilptr, .ptr _ _ | some (.pointer _), .nilptr, .rptr _ => some false
  | some (.pointer _), .ptr _ _, .nilptr | some (.pointer _), .rptr _, .nilptr => some false
  | some (.slice _), .row true _ _ _ _, .row true _ _ _ _ => some true
  | some (.slice _), .row true _ _ _ _, .row false _ cs _ tok => if cs.isEmpty && tok.isNone then none else some false
  | some (.slice _), .row false _ cs _ tok, .row true _ _ _ _ => if cs.isEmpty && tok.isNone then none else some false
  | some (.slice _), .slice _ _ _ _, .row true _ _ _ _ => some false
  | some (.slice _), .row true _ _ _ _, .slice _ _ _ _ => some false
  | some (.map _ _), .nilmap, .nilmap => some true
  | some (.map _ _), .map _, .nilmap | some (.map _ _), .nilmap, .map _ => some false
  | some (.func _ _ _), .nilfunc, .nilfunc => some true
  | some (.func _ _ _), .func _ _ _, .nilfunc | some (.func _ _ _), .nilfunc, .func _ _ _ => some false
  | some (.interface _), .niliface, .niliface => if cst then some true else none
  | some (.interface _), .iface _ _, .niliface | some (.interface _), .niliface, .iface _ _ => some false
  | some (.struct fs), .agg xs, .agg ys =>
    if P.eqGuardType P.depth t || P.stoodInHeld t then none else eqFields P xs ys fs.toList
  | some (.array len e), .agg xs, .agg ys =>
    if P.eqGuardType P.depth t then none
    else if isAggO P e = some false ∧ szO P e = some 1 ∧ xs.length = len ∧ ys.length = len then eqElems P e xs ys else none
  | _, _, _ => none

def binV (op : BinOp) (t : TypeId) (cst : Bool) (x y : V) : Option V :=
  match op, x, y with
  | .shl, .int k a, .int _ b | .shr, .int k a, .int _ b => shiftI op k a b
  | _, .int k a, .int k' b => if k = k' then arithI op k a b else none
  | _, .str a, .str b => strOp op a b
  | .eql, x, y => (eqV P cst t x y).map .bool
  | .neq, x, y => (eqV P cst t x y).map fun b => .bool !b
  | _, _, _ => none

def unV (op : UnOp) (x : V) : Option V :=
  match op, x with
  | .neg, .int k n => some (.int k (k.wrap (0 - n)))
  | .not, .bool b => some (.bool !b)
  | _, _ => none

def bytesOfCells : List V → Option (List UInt8)
  | [] => some []
  | .int .u8 n :: r => (bytesOfCells r).map (UInt8.ofNat n.toNat :: ·)
  | _ => none

def cellsOfBytes (s : List UInt8) : List V := s.map fun b => .int .u8 b.toNat

/-- the cells of a slice that is read -/
def sliceCells (h : Heap) (size : Nat) : V → Option (List V)
  | .row _ _ cs n _ => if cs.length = n * size then some cs else none
  | .slice a off len sz => if sz = size then (match h.bs[a]? with
    | some (.cells cs) | some (.frozen cs) => if off + len * size ≤ cs.length then some ((cs.drop off).take (len * size)) else none
    | _ => none) else none
  | .str s => if size = 1 then some (cellsOfBytes s) else none
  | _ => none

def lenO : V → Option Nat
  | .row _ _ _ n _ => some n
  | .slice _ _ n _ => some n
  | .str b => some b.length
  | _ => none

def isSl : V → Bool
  | .row _ _ _ _ _ | .slice _ _ _ _ => true
  | _ => false

def convV (h : Heap) (src dst : TypeId) (x : V) : Option (V × Heap) :=
  match P.underlying src, P.underlying dst, x with
  | some _, some (.int k), .int _ n => some (.int k (k.wrap n), h)
  | some .string, some .string, .str s => some (.str s, h)
  | some .string, some (.slice e), .str s => match P.underlying e, bytesO P e with
    | some (.int .u8), some _ => some (.slice h.bs.length 0 s.length 1, newB h (.cells (cellsOfBytes s)))
    | _, _ => none
  | some (.slice e), some .string, x => match P.underlying e with
    | some (.int .u8) => if isSl x then match sliceCells h 1 x with
        | some cs => (bytesOfCells cs).map fun s => (.str s, h)
        | none => none
      else none
    | _ => none
  | _, _, _ => none

/-- the bounds of a slice expression over a length n that is its capacity's known part -/
def bound (n : Nat) (dflt : Nat) : Option V → Option Nat
  | none => some dflt
  | some (.int _ i) => if 0 ≤ i ∧ i.toNat ≤ n then some i.toNat else none
  | some _ => none

def sliceV (t : TypeId) (h : Heap) (x : V) (lo hi mx : Option V) : Option V :=
  match x with
  | .str s => match P.underlying t, mx with
    | some .string, none => match bound s.length s.length hi with
      | some b => match bound b 0 lo with
        | some a => some (.str ((s.take b).drop a))
        | none => none
      | none => none
    | _, _ => none
  | .row nl fl cs n tok => match elemOfSlice P t with
    | some e => match szO P e with
      | some size => if cs.length = n * size then
          match bound n n mx with
          | some m => match bound m (if mx.isSome then m else n) hi with
            | some b => match bound b 0 lo with
              | some a => if mx.isSome ∧ hi.isNone then none else
                some (.row nl ((mx.isSome && m == b) || (mx.isNone && fl && b == n)) ((cs.take (b * size)).drop (a * size)) (b - a)
                  (if mx.isNone ∧ b = n ∧ a = 0 then tok else none))
              | none => none
            | none => none
          | none => none
        else none
      | none => none
    | none => none
  | .slice a off len sz => match elemOfSlice P t with
    | some e => if szO P e = some sz then
        match bound len len mx with
        | some m => match bound m (if mx.isSome then m else len) hi with
          | some b => match bound b 0 lo with
            | some l => if (mx.isSome ∧ hi.isNone) ∨ m = l then none else some (.slice a (off + l * sz) (b - l) sz)
            | none => none
          | none => none
        | none => none
      else none
    | none => none
  | .ptr a off =>
    let arr : Option (Nat × TypeId) := match P.underlying t with
      | some (.array n e) => some (n, e)
      | some (.pointer ar) => match P.underlying ar with
        | some (.array n e) => some (n, e)
        | _ => none
      | _ => none
    match arr with
    | some (n, e) => match szO P e with
      | some size => match bound n n mx with
        | some m => match bound m (if mx.isSome then m else n) hi with
          | some b => match bound b 0 lo with
            | some l => match h.bs[a]? with
              | some (.cells cs) => if ((mx.isSome ∧ hi.isNone) ∨ m = l) ∨ cs.length < off + n * size then none else some (.slice a (off + l * size) (b - l) size)
              | _ => none
            | none => none
          | none => none
        | none => none
      | none => none
    | none => none
  | _ => none

def indexAddrV (t : TypeId) (x i : V) : Option V :=
  match x, intOf? i with
  | .row _ _ cs n _, some i => match elemOfSlice P t with
    | some e => match szO P e with
      | some size => if 0 ≤ i ∧ i.toNat < n ∧ i.toNat * size < cs.length then some (.rptr (cs.drop (i.toNat * size))) else none
      | none => none
    | none => none
  | .slice a off len sz, some i => match elemOfSlice P t with
    | some e => if szO P e = some sz ∧ 0 ≤ i ∧ i.toNat < len then some (.ptr a (off + i.toNat * sz)) else none
    | none => none
  | .ptr a off, some i => match P.underlying t with
    | some (.array n e) => match szO P e with
      | some size => if 0 ≤ i ∧ i.toNat < n then some (.ptr a (off + i.toNat * size)) else none
      | none => none
    | _ => none
  | .rptr cs, some i => match P.underlying t with
    | some (.array n e) => match szO P e with
      | some size => if 0 ≤ i ∧ i.toNat < n then some (.rptr (cs.drop (i.toNat * size))) else none
      | none => none
    | _ => none
  | _, _ => none

def indexV (t : TypeId) (x i : V) : Option V :=
  match x, intOf? i with
  | .agg cs, some i => match P.underlying t with
    | some (.array n e) => match szO P e with
      | some size => if 0 ≤ i ∧ i.toNat < n ∧ i.toNat * size + size ≤ cs.length then packV P e ((cs.drop (i.toNat * size)).take size) else none
      | none => none
    | _ => none
  | .str s, some i => match P.underlying t with
    | some .string => if 0 ≤ i then (s[i.toNat]?).map fun b => .int .u8 b.toNat else none
    | _ => none
  | _, _ => none

def fieldAddrV (s : TypeId) (x : V) (f : Nat) : Option V :=
  match fieldO P s f with
  | some (fo, _, n) => if n = 0 then none else match x with
      | .ptr a off => some (.ptr a (off + fo))
      | .rptr cs => some (.rptr (cs.drop fo))
      | _ => none
  | none => none

def fieldV (s : TypeId) (x : V) (f : Nat) : Option V :=
  match fieldO P s f, x with
  | some (fo, ft, n), .agg cs => if fo + n ≤ cs.length then packV P ft ((cs.drop fo).take n) else none
  | _, _ => none

/-- a map's key, and whether an entry has it. -/
def eqKey (kt : TypeId) (x y : V) : Option Bool :=
  match P.underlying kt, x, y with
  | some .bool, .bool a, .bool b => some (a == b)
  | some (.int _), .int k a, .int k' b => if k = k' then some (a == b) else none
  | some .string, .str a, .str b => some (a == b)
  | some (.array len e), .agg xs, .agg ys =>
    if isAggO P e = some false ∧ szO P e = some 1 ∧ xs.length = len ∧ ys.length = len then eqElems P e xs ys else none
  | _, _, _ => none

def findK (kt : TypeId) (k : V) : List (V × V × Nat) → Option (Option (Nat × V × Nat))
  | [] => some none
  | (k', v, b) :: r => match eqKey P kt k k' with
    | some true => some (some (0, v, b))
    | some false => match findK kt k r with
      | some (some (i, v, b)) => some (some (i + 1, v, b))
      | x => x
    | none => none

def keyOk (kt : TypeId) (k : V) : Bool :=
  match P.underlying kt, k with
  | some .bool, .bool _ | some (.int _), .int _ _ | some .string, .str _ => true
  | some (.array len e), .agg xs => (match P.underlying e with
    | some .bool | some (.int _) | some .string => true
    | _ => false) && xs.all V.one && xs.length == len && szO P e == some 1
  | _, _ => false

def ofValZ : Value → Option V
  | .agg cs => if (cs.toList.map ofVal).all V.one then some (.agg (cs.toList.map ofVal)) else none
  | v => if (ofVal v).one then some (ofVal v) else none

def zeroV (t : TypeId) : Option V :=
  match P.info? t with
  | some i => match i.zero with
    | some v => ofValZ v
    | none => none
  | none => none

def lookupV (h : Heap) (t : TypeId) (m k : V) (ok : Bool) : Option V :=
  match P.underlying t with
  | some (.map kt et) => if !keyOk P kt k then none else
    match (match m with
      | .nilmap => some none
      | .map a => match h.bs[a]? with
        | some (.map es _) => findK P kt k es
        | _ => none
      | _ => none : Option (Option (Nat × V × Nat))) with
    | some (some (_, v, _)) => some (if ok then .tuple [v, .bool true] else v)
    | some none => (zeroV P et).map fun z => if ok then .tuple [z, .bool false] else z
    | none => none
  | _ => none

def mapUpdV (h : Heap) (t : TypeId) (m k v : V) : Option Heap :=
  match P.underlying t with
  | some (.map kt _) => if !keyOk P kt k || (v.cellsO).isNone then none else
    match m with
    | .map a => match h.bs[a]? with
      | some (.map es clock) => match findK P kt k es with
        | some (some (i, _, b)) => some { h with bs := h.bs.set a (.map (es.set i (k, v, b)) clock) }
        | some none => some { h with bs := h.bs.set a (.map (es ++ [(k, v, clock)]) (clock + 1)) }
        | none => none
      | _ => none
    | _ => none
  | _ => none

def mapEntryV (h : Heap) (t : TypeId) (m k : V) : Option (V × Heap) :=
  match P.underlying t with
  | some (.map kt et) => if !keyOk P kt k then none else
    match m with
    | .map a => match h.bs[a]? with
      | some (.map es clock) => match findK P kt k es with
        | some (some (i, v, b)) => some (.tuple [v, .int .i64 b], { h with bs := h.bs.set a (.map (es.set i (k, v, b)) clock) })
        | some none => (zeroV P et).map fun z => (.tuple [z, .int .i64 clock], { h with bs := h.bs.set a (.map (es ++ [(k, z, clock)]) (clock + 1)) })
        | none => none
      | _ => none
    | _ => none
  | _ => none

def setBorn (born : Int) (v : V) : List (V × V × Nat) → Option (List (V × V × Nat))
  | [] => none
  | (k, w, b) :: r => if ((b : Int) == born) then some ((k, v, b) :: r) else (setBorn born v r).map ((k, w, b) :: ·)

def entryStoreV (h : Heap) (m stamp v : V) : Option Heap :=
  match m, stamp with
  | .map a, .int _ b => if (v.cellsO).isNone then none else match h.bs[a]? with
    | some (.map es clock) => match setBorn b v es with
      | some es' => some { h with bs := h.bs.set a (.map es' clock) }
      | none => none
    | _ => none
  | _, _ => none

def maxN (op : Builtin) : V → V → Option V
  | .int k x, .int _ y => match op with
    | .max => some (.int k (if y > x then y else x))
    | .min => some (.int k (if y < x then y else x))
    | _ => none
  | _, _ => none

def foldN (op : Builtin) : V → List V → Option V
  | x, [] => some x
  | x, y :: r => match maxN op x y with
    | some z => foldN op z r
    | none => none

def lenV (h : Heap) (t : TypeId) (x : V) : Option V :=
  match P.underlying t, x with
  | some .string, .str s => some (.int .i64 s.length)
  | some (.slice _), .row _ _ _ n _ => some (.int .i64 n)
  | some (.slice _), .slice _ _ n _ => some (.int .i64 n)
  | some (.array n _), _ => some (.int .i64 n)
  | some (.map _ _), .nilmap => some (.int .i64 0)
  | some (.map _ _), .map a => match h.bs[a]? with
    | some (.map es _) => some (.int .i64 es.length)
    | _ => none
  | _, _ => none

/-- How many elements and bytes an append may come to. -/
def smallRow (n bytes : Nat) : Bool := n ≤ 4294967296 && bytes ≤ 16384

def isIntD : TypeDesc → Bool
  | .int _ => true
  | _ => false

def appendE (h : Heap) (e : TypeId) (s x : V) : Option (V × Heap) :=
  match P.info? e, zeroCs P e with
  | some i, some _ =>
    match sliceCells h i.size x, lenO x with
    | some new, some m => match s with
      | .row nl fl cs n tok =>
        if cs.length = n * i.size ∧ 0 < i.size ∧ smallRow (n + m) i.bytes ∧ new.length = m * i.size then
          if m = 0 then some (s, h)
          else match tok with
            | some k => match h.ts[k]? with
              | some (some sz) => if sz = i.size then
                  some (.row false false (cs ++ new) (n + m) (some h.ts.length), { h with ts := h.ts.set k none ++ [some i.size] })
                else none
              | _ => none
            | none => if nl || fl then
                some (.row false false (cs ++ new) (n + m) (some h.ts.length), { h with ts := h.ts ++ [some i.size] })
              else none
        else none
      | _ => none
    | _, _ => none
  | _, _ => none

/-- An append of which the outcome is a block. -/
def appendEB (h : Heap) (e : TypeId) (s x : V) : Option (V × Heap) :=
  match P.info? e, zeroCs P e with
  | some i, some _ =>
    match sliceCells h i.size x, lenO x with
    | some new, some m => match s with
      | .row nl fl cs n _ =>
        if cs.length = n * i.size ∧ 0 < i.size ∧ smallRow (n + m) i.bytes ∧ new.length = m * i.size then
          if m = 0 then some (s, h)
          else if nl || fl then some (.slice h.bs.length 0 (n + m) i.size, newB h (.cells (cs ++ new)))
          else none
        else none
      | .slice a off n sz => match h.bs[a]? with
        | some (.cells cs) =>
          if off = 0 ∧ sz = i.size ∧ cs.length = n * i.size ∧ 0 < i.size ∧ smallRow (n + m) i.bytes ∧ new.length = m * i.size then
            if m = 0 then some (s, h)
            else some (.slice h.bs.length 0 (n + m) i.size, newB { h with bs := h.bs.set a .dead } (.cells (cs ++ new)))
          else none
        | _ => none
      | _ => none
    | _, _ => none
  | _, _ => none

def appendV (h : Heap) (blk : Bool) (ts : Array TypeId) (s x : V) : Option (V × Heap) :=
  match ts[0]?, ts[1]? with
  | some t0, some t1 => match elemOfSlice P t0, P.underlying t1 with
    | some e, some d => if isIntD d then none else if blk then appendEB P h e s x else appendE P h e s x
    | _, _ => none
  | _, _ => none

def makeSliceV (h : Heap) (t : TypeId) (lc : Bool) (l c : V) : Option (V × Heap) :=
  match elemOfSlice P t, intOf? l, intOf? c with
  | some e, some l, some c => match P.info? e, zeroCs P e with
    | some i, some z =>
      if 0 ≤ l ∧ l ≤ c ∧ smallRow c.toNat i.bytes ∧ 0 < i.size then
        if lc then
          if l = 0 then some (.row false false [] 0 (some h.ts.length), { h with ts := h.ts ++ [some i.size] }) else none
        else if l = c then some (.slice h.bs.length 0 l.toNat i.size, newB h (.cells ((List.replicate l.toNat z).flatten)))
        else none
      else none
    | _, _ => none
  | _, _, _ => none

def operZero : Operand → Bool
  | .const (.int _ 0) => true
  | _ => false

def typeAssertV (x : V) (asserted : TypeId) (ok : Bool) : Option V :=
  match P.underlying asserted with
  | some (.interface _) => none
  | some _ => match x with
    | .iface t v => if t = asserted then some (if ok then .tuple [v, .bool true] else v)
        else if ok then (zeroV P asserted).map fun z => .tuple [z, .bool false] else none
    | .niliface => if ok then (zeroV P asserted).map fun z => .tuple [z, .bool false] else none
    | _ => none
  | none => none

end ops

def fnLike : V → Bool
  | .func _ _ _ => true
  | _ => false

def opR (c : Cfg) (h : Heap) (ev : Operand → V) (o : Oper) : Option OR :=
  let P := c.P
  let v (x : Option V) : Option OR := x.map (.val · h)
  match o.op with
  | .move x | .assign x => some (.val (ev x) h)
  | .pick q a b => match ev q with
    | .bool t => some (.val (if t then ev a else ev b) h)
    | _ => none
  | .alloc e => match zeroCs P e with
    | some z => some (.val (.ptr h.bs.length 0) (newB h (.cells z)))
    | none => none
  | .box e x => match (ev x).cellsO with
    | some cs => some (.val (.ptr h.bs.length 0) (newB h (.cells cs)))
    | none => none
  | .build t parts => v (buildV P t (parts.toList.map fun (i, x) => (i, ev x)))
  | .buildSlice t len parts => v (buildSliceV P t len (parts.toList.map fun (i, x) => (i, ev x)))
  | .load t a => v (loadP P h t (ev a))
  | .store t a x => (storeP P h t (ev a) (ev x)).map .skip
  | .nilCheck x => match ev x with
    | .undef | .nilptr | .niliface | .nilfunc => none
    | .func (.func f) a b => some (.val (.func (.func f) a b) h)
    | .func _ _ _ => none
    | x => some (.val x h)
  | .binOp op t x y _ => v (binV P op t (isConst x || isConst y) (ev x) (ev y))
  | .unOp op _ x => v (unV op (ev x))
  | .convert src dst x => (convV P h src dst (ev x)).map fun (x, h) => .val x h
  | .makeInterface t x => match P.underlying t with
    | some (.interface _) => none
    | some _ => match ev x with
      | .undef => none
      | x => some (.val (.iface t x) h)
    | none => none
  | .makeFunc fn first captured => some (.val (.func fn (first.toList.map ev) (captured.toList.map ev)) h)
  | .makeMap t r => match r with
    | none => some (.val (.map h.bs.length) (newB h (.map [] 0)))
    | some x => match P.underlying t, intOf? (ev x) with
      | some (.map _ _), some _ => some (.val (.map h.bs.length) (newB h (.map [] 0)))
      | _, _ => none
  | .makeSlice t l c => (makeSliceV P h t (operZero l) (ev l) (ev c)).map fun (x, h) => .val x h
  | .slice t x lo hi mx => v (sliceV P t h (ev x) (lo.map ev) (hi.map ev) (mx.map ev))
  | .fieldAddr s x f => v (fieldAddrV P s (ev x) f)
  | .field t x f => v (fieldV P t (ev x) f)
  | .indexAddr t x i => v (indexAddrV P t (ev x) (ev i))
  | .index t x i => v (indexV P t (ev x) (ev i))
  | .lookup t m k ok => v (lookupV P h t (ev m) (ev k) ok)
  | .mapUpdate t m k x | .insert t m k x => (mapUpdV P h t (ev m) (ev k) (ev x)).map .skip
  | .typeAssert x _ a ok => v (typeAssertV P (ev x) a ok)
  | .extract t i => match ev t with
    | .tuple vs => v vs[i]?
    | _ => none
  | .defer cl => match cl.callee with
    | .value f => if !fnLike (ev f) then none else some (.dfr (.call (ev f) (cl.args.toList.map ev)))
    | _ => none
  | .panic x => match ev x with
    | .iface t y => some (.pan (.iface t y))
    | _ => none
  | .call cl => match cl.callee with
    | .value f => some (.call (ev f) (cl.args.toList.map ev))
    | .builtin .len => match cl.argTypes[0]?, cl.args[0]? with
      | some t, some x => v (lenV P h t (ev x))
      | _, _ => none
    | .builtin .append => match cl.args[0]?, cl.args[1]? with
      | some s, some x => (appendV P h (c.blk o.pos) cl.argTypes (ev s) (ev x)).map fun (x, h) => .val x h
      | _, _ => none
    | .builtin .max => match cl.args.toList with
      | [] => none
      | x :: r => v (foldN .max (ev x) (r.map ev))
    | .builtin .min => match cl.args.toList with
      | [] => none
      | x :: r => v (foldN .min (ev x) (r.map ev))
    | .builtin .recover => some .recover
    | _ => none
  | _ => none

/-- Is a guarded operation wanted? none: that is not known. -/
def wantedV (ops : Array Oper) (o : Oper) (t : List V) : Option Bool :=
  match o.guard with
  | none => some true
  | some (j, w) => match ops[j]? with
    | some g => match g.dst with
      | some d => match t[d]? with
        | some (.bool b) => some (b == w)
        | some .undef | none => none
        | some _ => some false
      | none => none
    | none => none


/-! ### Regions whose order is open -/

/-- the temporaries that an operation reads -/
def tmpsOf (xs : Array Operand) : List Nat := xs.toList.filterMap fun | .tmp t => some t | _ => none

def readsOf (ops : Array Oper) (o : Oper) : List Nat :=
  tmpsOf o.op.operands ++ (match o.guard with
    | some (j, _) => match ops[j]? with
      | some g => g.dst.toList
      | none => []
    | none => [])

/-- 0: the heap is not looked at; 1: it is read; 3: a block is laid at its end; 2: all else. -/
def clsOf (c : Cfg) (o : Oper) : Nat :=
  match o.op with
  | .move _ | .assign _ | .pick .. | .build .. | .buildSlice .. | .nilCheck _ | .binOp .. | .unOp .. | .makeInterface .. | .makeFunc ..
  | .fieldAddr .. | .field .. | .indexAddr .. | .index .. | .typeAssert .. | .extract .. => 0
  | .load .. | .lookup .. | .slice .. => 1
  | .alloc _ | .box .. => 3
  | .convert _ dst _ => match c.P.underlying dst with
    | some (.int _) => 0
    | some .string => 1
    | _ => 2
  | .call cl => match cl.callee with
    | .value (.func f) => if c.pure f then 0 else 2
    | .builtin .len => 1
    | .builtin .max | .builtin .min => 0
    | _ => 2
  | _ => 2

def indep (c : Cfg) (ops : Array Oper) (a b : Oper) : Bool :=
  (match a.dst with
    | some d => b.dst != some d && !(readsOf ops b).contains d
    | none => true) &&
  (match b.dst with
    | some d => !(readsOf ops a).contains d
    | none => true) &&
  (clsOf c a == 0 || clsOf c b == 0 || (clsOf c a == 1 && clsOf c b == 1) || (clsOf c a == 1 && clsOf c b == 3))

/-- what stands ahead of an operation by its edges, all of it -/
def befores (ops : Array Oper) : List (List Nat) :=
  ops.toList.foldl (init := []) fun acc o =>
    acc ++ [o.after.toList.foldl (init := []) fun s e => if Region.binds .any e then e.on :: (acc.getD e.on [] ++ s) else s]

def edgesBack (ops : Array Oper) : Bool :=
  ops.toList.zipIdx.all fun (o, i) => o.after.toList.all fun e => !Region.binds .any e || e.on < i

def drawOk (c : Cfg) (ops : Array Oper) : Bool :=
  edgesBack ops &&
  (List.range ops.size).all fun i => (List.range i).all fun a =>
    ((befores ops).getD i []).contains a ||
    (match ops[a]?, ops[i]? with
      | some x, some y => indep c ops x y
      | _, _ => false)

/-- Is an operand's temporary left alone by a region? -/
def stayT (ops : Array Oper) : Operand → Bool
  | .tmp i => ops.toList.all fun o => o.dst != some i
  | _ => true
def apartV : V → V → Bool
  | .ptr a _, .ptr b _ => a != b
  | _, _ => false
/-- a reading, and a writing of another block -/
def apartO (c : Cfg) (ops : Array Oper) (t : List V) (a b : Oper) : Bool :=
  (match a.dst with
    | some d => b.dst != some d && !(readsOf ops b).contains d
    | none => true) &&
  (match b.dst with
    | some d => !(readsOf ops a).contains d
    | none => true) &&
  (match a.op, b.op with
    | .load _ p, .store _ q _ => stayT ops p && stayT ops q && apartV (evT c t p) (evT c t q)
    | _, _ => false)
def drawOkT (c : Cfg) (ops : Array Oper) (t : List V) : Bool :=
  edgesBack ops &&
  (List.range ops.size).all fun i => (List.range i).all fun a =>
    ((befores ops).getD i []).contains a ||
    (match ops[a]?, ops[i]? with
      | some x, some y => indep c ops x y || apartO c ops t x y
      | _, _ => false)

/-- an operation that all others precede or follow -/
def pivot (ops : Array Oper) (i : Nat) : Bool :=
  (List.range ops.size).all fun j => j == i || ((befores ops).getD i []).contains j || ((befores ops).getD j []).contains i

/-! ### Code -/

abbrev CallF := V → List V → Heap → Option (CRes × Heap)

/-- No part of it lies in the abstract heap. -/
def V.closed : V → Bool
  | .undef | .ptr _ _ | .slice _ _ _ _ | .map _ | .yld _ | .rptr _ => false
  | .row _ _ cs _ _ => closedL cs
  | .func _ a b => closedL a && closedL b
  | .iface _ v => v.closed
  | .agg cs => closedL cs
  | .tuple vs => closedL vs
  | _ => true
where closedL : List V → Bool
  | [] => true
  | v :: vs => v.closed && closedL vs

/-- a closed value as it is handed over: no token, no word on its capacity -/
def V.norm : V → V
  | .row _ _ cs n _ => .row false false (normL cs) n none
  | .func fn a b => .func fn (normL a) (normL b)
  | .iface t v => .iface t v.norm
  | .agg cs => .agg (normL cs)
  | .tuple vs => .tuple (normL vs)
  | v => v
where normL : List V → List V
  | [] => []
  | v :: vs => v.norm :: normL vs

def execOps (c : Cfg) (C : CallF) (q : Bool) (ops : Array Oper) : List Nat → St → Option (Ax × St)
  | [], s => some (.normal, s)
  | i :: l, s =>
    match ops[i]? with
    | none => none
    | some o =>
      match wantedV ops o s.t with
      | none => none
      | some false => execOps c C q ops l { s with t := putT s.t o.dst (.tuple []) }
      | some true =>
        match opR c s.h (evT c s.t) o with
        | none => none
        | some (.val v h) => execOps c C q ops l { s with t := putT s.t o.dst v, h }
        | some (.skip h) => execOps c C q ops l { s with t := putT s.t o.dst (.tuple []), h }
        | some (.dfr d) => if s.ro.isSome then none else execOps c C q ops l { s with t := putT s.t o.dst (.tuple []), d := d :: s.d }
        | some (.pan v) => if q && !pivot ops i then none else some (.panic v, s)
        | some .recover => if s.ro.isSome then none else match s.p with
          | .pan v => execOps c C q ops l { s with t := putT s.t o.dst v, p := .got v }
          | _ => execOps c C q ops l { s with t := putT s.t o.dst .niliface }
        | some (.call f args) =>
          if q && clsOf c o == 0 && !V.closed.closedL args then none else
          match C f args s.h with
          | some (.ret v, h) => execOps c C q ops l { s with t := putT s.t o.dst v, h }
          | some (.panic v, h) => if q && !pivot ops i then none else some (.panic v, { s with h })
          | none => none

/-- the slots that a loop's body writes as temporaries and does not read first -/
def writtenOps : List Oper → List Nat
  | [] => []
  | o :: l => (match o.op with | .assign _ => [] | _ => o.dst.toList) ++ writtenOps l

def scanOps (ops : Array Oper) : List Oper → List Nat × List Nat → List Nat × List Nat
  | [], x => x
  | o :: l, (w, r) => scanOps ops l (o.dst.toList ++ w, ((readsOf ops o).filter fun t => !w.contains t) ++ r)

def scanCode : Code → List Nat × List Nat → List Nat × List Nat
  | .region _ ops _, x => scanOps ops ops.toList x
  | .seq a b, x => scanCode b (scanCode a x)
  | .cond q a b, (w, r) =>
    let r := (match q with | .tmp t => if w.contains t then [] else [t] | _ => []) ++ r
    let (_, ra) := scanCode a (w, r)
    let (_, rb) := scanCode b (w, ra)
    (w, rb)
  | .block _ b, (w, r) => let (_, r') := scanCode b (w, r); (w, r')
  | .loop b, (w, r) => let (_, r') := scanCode b (w, r); (w, r')
  | .scope b, (w, r) => let (_, r') := scanCode b (w, r); (w, r')
  | .rangeFunc f _ a b, (w, r) =>
    let r := (match f with | .tmp t => if w.contains t then [] else [t] | _ => []) ++ r
    let (_, ra) := scanCode b (scanCode a (w, r))
    (w, ra)
  | _, x => x

def writtenCode : Code → List Nat
  | .region _ ops _ => writtenOps ops.toList
  | .seq a b | .cond _ a b => writtenCode a ++ writtenCode b
  | .block _ b | .loop b | .scope b => writtenCode b
  | .rangeFunc _ _ a b => writtenCode a ++ writtenCode b
  | _ => []

def killSet (b : Code) : List Nat :=
  let r := (scanCode b ([], [])).2
  (writtenCode b).filter fun t => !r.contains t

def killT (ks : List Nat) (t : List V) : List V := ks.foldl (fun t k => t.set k .undef) t

/-- the slots that a loop's body writes ahead of all reading are forgotten -/
def killS (c : Cfg) (b : Code) (s : St) : St := if c.kill then { s with t := killT (killSet b) s.t } else s

abbrev ExecF := Code → St → Option (Ax × St)

/-- a range over a function, behind the laying of the block for the rounds' deferred calls -/
def rangeGo (c : Cfg) (C : CallF) (s : St) (f : Operand) (ps : Array Tmp) (assign body : Code) (h : Heap) (db : Nat) (d : List Def) : Option (Ax × St) :=
  match C (evT c s.t f) [.yld h.bs.length] (newB h (.loop s.t ps.toList assign body .ready none db)) with
  | some (.ret _, h') => match h'.bs[h.bs.length]? with
    | some (.loop t p as bo st pend db') =>
      if st = .busy then none else
      let s' : St := { s with h := { h' with bs := h'.bs.set h.bs.length (.loop t p as bo .exhausted pend db') }, d }
      match pend with
      | none => some (.normal, s')
      | some .ret => some (.ret, s')
      | some (.exit id) => some (.exit id, s')
      | _ => none
    | _ => none
  | some (.panic v, h') => some (.panic v, { s with h := h', d })
  | none => none

def execS (c : Cfg) (E : ExecF) (C : CallF) : ExecF
  | .skip, s | .label _, s => some (.normal, s)
  | .seq a b, s => match E a s with
    | some (.normal, s') => E b s'
    | r => r
  | .cond q a b, s => match evT c s.t q with
    | .bool true => E a s
    | .bool false => E b s
    | _ => none
  | .block id b, s => match E b s with
    | some (.exit id', s') => if id' = id then some (.normal, s') else some (.exit id', s')
    | r => r
  | .loop b, s => match E b (killS c b s) with
    | some (.normal, s') => E (.loop b) s'
    | some (ax, s') => some (ax, killS c b s')
    | none => none
  | .region _ ops draw, s => if draw && !(drawOk c ops || drawOkT c ops s.t) then none else execOps c C draw ops (List.range ops.size) s
  | .exit id, s => some (.exit id, s)
  | .ret, s => some (.ret, s)
  | .rangeFunc f ps assign body, s =>
    if !fnLike (evT c s.t f) then none else
    match s.ro with
    | none => rangeGo c C s f ps assign body (newB s.h (.dfr true)) s.h.bs.length (.mark s.h.bs.length :: s.d)
    | some l => match s.h.bs[l]? with
      | some (.loop _ _ _ _ _ _ db) => rangeGo c C s f ps assign body s.h db s.d
      | _ => none
  | _, _ => none

/-- the results of a call -/
def readRes (P : Program) (h : Heap) (t : List V) : List ResultVar → Option (List V)
  | [] => some []
  | .tmp i :: r => (readRes P h t r).map (t.getD i .undef :: ·)
  | .cell a ty :: r => match loadP P h ty (t.getD a .undef), readRes P h t r with
    | some v, some vs => some (v :: vs)
    | _, _ => none

def packRes : List V → V
  | [v] => v
  | vs => .tuple vs

/-- how a frame is on its way out -/
inductive Md where
  | ret
  | pan (v : V)

abbrev DCallF := V → List V → Heap → Pan → Option (Heap × Pan)

def leaveS (D : DCallF) : List Def → Heap → Md → Option (Heap × Md)
  | [], h, m => some (h, m)
  | .mark a :: ds, h, m => match h.bs[a]? with
    | some (.dfr true) => leaveS D ds { h with bs := h.bs.set a (.dfr false) } m
    | _ => none
  | .call fv args :: ds, h, .ret => match D fv args h .no with
    | some (h, .no) => leaveS D ds h .ret
    | _ => none
  | .call fv args :: ds, h, .pan v => match D fv args h (.pan v) with
    | some (h, .pan v) => leaveS D ds h (.pan v)
    | some (h, .got _) => leaveS D ds h .ret
    | _ => none

def initT (fn : Func) (args : List V) : List V := args ++ List.replicate (fn.ntmps - args.length) (.tuple [])

/-- one call of function f, as a plain call -/
def bodyS (c : Cfg) (E : ExecF) (D : DCallF) (f : FuncId) (args : List V) (h : Heap) : Option (CRes × Heap) :=
  match c.P.funcs[f]? with
  | none => none
  | some fn => match fn.body with
    | none => none
    | some code =>
      let fin (s : St) (m : Md) : Option (CRes × Heap) :=
        match leaveS D s.d s.h m with
        | some (h, .ret) => match readRes c.P h s.t fn.results.toList with
          | some vs => some (.ret (packRes vs), h)
          | none => none
        | some (h, .pan v) => some (.panic v, h)
        | none => none
      match E code { t := initT fn args, h, d := [], p := .no, ro := none } with
      | some (.normal, s) | some (.ret, s) => fin s .ret
      | some (.panic v, s) => fin s (.pan v)
      | _ => none

/-- one deferred call -/
def dbodyS (c : Cfg) (E : ExecF) (fv : V) (args : List V) (h : Heap) (p : Pan) : Option (Heap × Pan) :=
  match fv with
  | .func (.func f) first cap => match c.P.funcs[f]? with
    | none => none
    | some fn => match fn.body with
      | none => none
      | some code => match E code { t := initT fn (first ++ args ++ cap), h, d := [], p, ro := none } with
        | some (.normal, s) | some (.ret, s) => match s.d, readRes c.P s.h s.t fn.results.toList with
          | [], some _ => some (s.h, s.p)
          | _, _ => none
        | _ => none
  | _ => none

/-- a value with what it reaches in the heap's frozen blocks laid open -/
def pure1 (g : V → Option V) (h : Heap) : V → Option V
  | .row _ _ cs n _ => (pure1L cs).map fun cs => .row false false cs n none
  | .slice a off len sz => match h.bs[a]? with
    | some (.frozen cs) => if off + len * sz ≤ cs.length then (mapO ((cs.drop off).take (len * sz))).map fun cs => .row false false cs len none else none
    | _ => none
  | .func fn a b => match pure1L a, pure1L b with
    | some a, some b => some (.func fn a b)
    | _, _ => none
  | .iface t v => (pure1 g h v).map (.iface t)
  | .agg cs => (pure1L cs).map .agg
  | .tuple vs => (pure1L vs).map .tuple
  | .undef | .ptr _ _ | .map _ | .yld _ | .rptr _ => none
  | v => some v
where
  pure1L : List V → Option (List V)
    | [] => some []
    | v :: vs => match pure1 g h v, pure1L vs with
      | some v, some vs => some (v :: vs)
      | _, _ => none
  mapO : List V → Option (List V)
    | [] => some []
    | v :: vs => match g v, mapO vs with
      | some v, some vs => some (v :: vs)
      | _, _ => none

def pureN (h : Heap) : Nat → V → Option V
  | 0 => fun _ => none
  | n + 1 => pure1 (pureN h n) h

def reach1 (g : Nat → List Nat) : V → List Nat
  | .slice a _ _ _ => g a
  | .row _ _ cs _ _ => reach1L cs
  | .func _ a b => reach1L a ++ reach1L b
  | .agg cs => reach1L cs
  | .tuple cs => reach1L cs
  | .iface _ v => reach1 g v
  | _ => []
where reach1L : List V → List Nat
  | [] => []
  | v :: vs => reach1 g v ++ reach1L vs

def reachN (h : Heap) : Nat → V → List Nat
  | 0 => fun _ => []
  | n + 1 => reach1 fun a => a :: (match h.bs[a]? with
    | some (.cells cs) | some (.frozen cs) => cs.flatMap (reachN h n)
    | _ => [])

def freezeB (h : Heap) (a : Nat) : Heap :=
  match h.bs[a]? with
  | some (.cells cs) => { h with bs := h.bs.set a (.frozen cs) }
  | _ => h

def freezeAll (h : Heap) (as : List Nat) : Heap := as.foldl freezeB h

/-- values handed over to a pure call, or handed back by it -/
def handV (h : Heap) (vs : List V) : Option (List V × Heap) :=
  if V.closed.closedL vs then some (V.norm.normL vs, h)
  else
    let h := freezeAll h (vs.flatMap (reachN h 8))
    (pure1.mapO (pureN h 8) vs).map fun vs => (vs, h)

def emptyH : Heap := ⟨[], []⟩

/-- the outcome of a pure call, laid open -/
def outS : Option (CRes × Heap) → Option CRes
  | some (.ret v, h) => match handV h [v] with
    | some ([v], _) => some (.ret v)
    | _ => none
  | some (.panic v, h) => match handV h [v] with
    | some ([v], _) => some (.panic v)
    | _ => none
  | none => none

/-- one round of a range over a function -/
def roundS (E : ExecF) (a : Nat) (args : List V) (h : Heap) : Option (CRes × Heap) :=
  match h.bs[a]? with
  | some (.loop t ps assign body .ready none db) =>
    if args.length ≠ ps.length then none else
    match E assign { t := (ps.zip args).foldl (fun t (x : Nat × V) => t.set x.1 x.2) t, h, d := [], p := .no, ro := some a } with
    | some (.normal, s) => match s.h.bs[a]? with
      | some (.loop t' ps' assign' body' .ready none db') =>
        let fin (s : St) (j : Option Code) : Option (CRes × Heap) :=
          match s.h.bs[a]? with
          | some (.loop t' ps' assign' body' _ _ db') =>
            some (.ret (.bool j.isNone), { s.h with bs := s.h.bs.set a (.loop t' ps' assign' body' (if j.isNone then .ready else .done) j db') })
          | _ => none
        match E body { s with h := { s.h with bs := s.h.bs.set a (.loop t' ps' assign' body' .busy none db') } } with
        | some (.normal, s) => fin s none
        | some (.ret, s) => fin s (some .ret)
        | some (.exit id, s) => fin s (some (.exit id))
        | _ => none
      | _ => none
    | _ => none
  | _ => none

def callS (c : Cfg) (E : ExecF) (D : DCallF) (fv : V) (args : List V) (h : Heap) : Option (CRes × Heap) :=
  match fv with
  | .func (.func f) first cap =>
    if c.pure f then
      match handV h (first ++ args ++ cap) with
      | some (xs, h) => match c.ext f xs with
        | some r => some (r, h)
        | none => (outS (bodyS c E D f xs emptyH)).map fun r => (r, h)
      | none => none
    else bodyS c E D f (first ++ args ++ cap) h
  | .yld a => roundS E a args h
  | _ => none

structure Rn where
  E : ExecF
  C : CallF
  D : DCallF

def run (c : Cfg) : Nat → Rn
  | 0 => ⟨fun _ _ => none, fun _ _ _ => none, fun _ _ _ _ => none⟩
  | n + 1 => ⟨execS c (run c n).E (run c n).C, callS c (run c n).E (run c n).D, dbodyS c (run c n).E⟩

end Go.Ab
