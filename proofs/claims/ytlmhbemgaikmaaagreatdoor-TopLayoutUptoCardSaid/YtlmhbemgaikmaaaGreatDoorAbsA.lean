/- A part of the proof. -/
import Derived.Calls
import Derived.RangeFuncRecord
import Derived.Laws.CopyRow
import Derived.Below
import Derived.Laws.AppendOwn
import Derived.Laws.Cells
import Derived.Laws.Entries
import Derived.Laws.Append
import Derived.Laws.Strings
import Derived.Laws.StructEq
import Derived.Laws.IdiomStrings
set_option linter.unusedVariables false
set_option linter.unusedSimpArgs false
set_option linter.unusedSectionVars false
set_option linter.deprecated false
namespace Go.Ab
inductive V where
 | undef
 | bool (b : Bool)
 | int (k : IntKind) (n : Int)
 | str (s : List UInt8)
 | row (nl fl : Bool) (cs : List V) (n : Nat) (tok : Option Nat)
 | rptr (cs : List V)
 | ptr (a off : Nat)
 | nilptr
 | slice (a off len sz : Nat)
 | map (a : Nat)
 | nilmap
 | func (fn : Fn) (first captured : List V)
 | nilfunc
 | yld (a : Nat)
 | iface (t : TypeId) (v : V)
 | niliface
 | agg (cs : List V)
 | tuple (vs : List V)
 deriving Inhabited
def V.one : V → Bool
 | .undef | .agg _ | .tuple _ => false
 | _ => true
def V.cellsO : V → Option (List V)
 | .agg cs => if cs.all V.one then some cs else none
 | v => if v.one then some [v] else none
def ofVal : Value → V
 | .bool b => .bool b
 | .int k n => .int k n
 | .string s => .str s.data.toList
 | .slice none 0 0 => .row true true [] 0 none
 | .pointer none => .nilptr
 | .map none => .nilmap
 | .nilFunc => .nilfunc
 | .nilIface => .niliface
 | .tuple ⟨[]⟩ => .tuple []
 | _ => .undef
def ofZero (v : Value) : List V := v.cells.toList.map ofVal
inductive Blk where
 | cells (cs : List V)
 | frozen (cs : List V)
 | dead
 | map (es : List (V × V × Nat)) (clock : Nat)
 | loop (t : List V) (params : List Nat) (assign body : Code) (state : LoopState) (pending : Option Code) (db : Nat)
 | dfr (isOpen : Bool)
 | iter (m : Option Nat) (since : Nat) (seen : List Nat) (last : Nat)
 | res
 | bld (T e : TypeId) (used : Bool) (s : List UInt8)
 deriving Inhabited
def Blk.isRes : Blk → Bool
 | .res => true
 | _ => false
structure Heap where
 bs : List Blk
 ts : List (Option Nat)
inductive Def where
 | call (fv : V) (args : List V)
 | mark (a : Nat)
inductive Pan where
 | no
 | pan (v : V)
 | got (v : V)
structure St where
 t : List V
 h : Heap
 d : List Def
 p : Pan
 ro : Option Nat
inductive Ax where
 | normal
 | exit (id : Nat)
 | ret
 | panic (v : V)
inductive CRes where
 | ret (v : V)
 | panic (v : V)
inductive OR where
 | val (v : V) (h : Heap)
 | skip (h : Heap)
 | dfr (d : Def)
 | pan (v : V)
 | recover
 | call (fv : V) (args : List V)
structure Cfg where
 P : Program
 pure : FuncId → Bool
 ext : FuncId → List V → Option CRes
 glob : Nat → Option (List V)
 kill : Bool
 blk : String → Bool
 mrow : String → Bool := fun _ => false
 bsl : String → Bool := fun _ => false
 bld : TypeId → Option TypeId := fun _ => none
 natb : FuncId → Bool := fun _ => false
 nat : FuncId → List V → Heap → Option (CRes × Heap) := fun _ _ _ => none
def evT (c : Cfg) (t : List V) : Operand → V
 | .tmp i => t.getD i .undef
 | .const v => ofVal v
 | .global g => match c.glob g with
  | some cs => .rptr cs
  | none => .undef
 | .func f => .func (.func f) [] []
def putT (t : List V) (dst : Option Tmp) (v : V) : List V :=
 match dst with
 | some d => t.set d v
 | none => t
def V.closed : V → Bool
 | .undef | .ptr _ _ | .slice _ _ _ _ | .map _ | .yld _ | .rptr _ => false
 | .row _ _ cs _ _ => closedL cs
 | .func _ a b => closedL a && closedL b
 | .iface _ v => v.closed
 | .agg cs => closedL cs
 | .tuple vs => closedL vs
 | _ => true
where closedL : List V → Bool
 | [] => true
 | v :: vs => v.closed && closedL vs
def V.norm : V → V
 | .row _ _ cs n _ => .row false false (normL cs) n none
 | .func fn a b => .func fn (normL a) (normL b)
 | .iface t v => .iface t v.norm
 | .agg cs => .agg (normL cs)
 | .tuple vs => .tuple (normL vs)
 | v => v
where normL : List V → List V
 | [] => []
 | v :: vs => v.norm :: normL vs
def closeV (x : V) : V := if x.closed then x.norm else x
section ops
variable (P : Program)
def szO (t : TypeId) : Option Nat := (P.info? t).map (·.size)
def bytesO (t : TypeId) : Option Nat := (P.info? t).map (·.bytes)
def zeroO (t : TypeId) : Option Value := (P.info? t).bind (·.zero)
def zeroCs (t : TypeId) : Option (List V) :=
 match P.info? t with
 | some i => match i.zero with
  | some z => if (ofZero z).all V.one && (ofZero z).length == i.size then some (ofZero z) else none
  | none => none
 | none => none
def isAggO (t : TypeId) : Option Bool :=
 match P.underlying t with
 | some (.struct _) | some (.array _ _) => some true
 | some _ => some false
 | none => none
def packV (t : TypeId) (cs : List V) : Option V :=
 match isAggO P t with
 | some true => some (.agg cs)
 | some false => match cs with
  | [v] => some v
  | _ => none
 | none => none
def fieldOf (s : TypeId) (f : Nat) : Option Field :=
 match P.underlying s with
 | some (.struct fs) => fs[f]?
 | _ => none
def fieldO (s : TypeId) (f : Nat) : Option (Nat × TypeId × Nat) :=
 match fieldOf P s f with
 | some fd => (szO P fd.type).map fun n => (fd.offset, fd.type, n)
 | none => none
def placesO (t : TypeId) : Option (List (Nat × Nat)) :=
 match P.underlying t with
 | some (.struct fs) => fs.toList.mapM (fun f => (P.info? f.type).map fun i => (f.offset, i.size))
 | _ => none
def elemOfSlice (t : TypeId) : Option TypeId :=
 match P.underlying t with
 | some (.slice e) => some e
 | _ => none
def readP (h : Heap) (p : V) (n : Nat) : Option (List V) :=
 match p with
 | .ptr a off => match h.bs[a]? with
  | some (.cells cs) | some (.frozen cs) => if off + n ≤ cs.length then some ((cs.drop off).take n) else none
  | _ => none
 | .rptr cs => if n ≤ cs.length then some (cs.take n) else none
 | _ => none
def loadP (h : Heap) (t : TypeId) (p : V) : Option V :=
 match isAggO P t with
 | some true => match szO P t with
  | some n => (readP h p n).map .agg
  | none => none
 | some false => match readP h p 1 with
  | some [v] => some v
  | _ => none
 | none => none
def writeL : List V → Nat → List V → List V
 | cs, _, [] => cs
 | cs, i, v :: vs => writeL (cs.set i v) (i + 1) vs
def storeP (h : Heap) (t : TypeId) (p v : V) : Option Heap :=
 match p, szO P t, v.cellsO with
 | .ptr a off, some n, some vs =>
  if vs.length = n then
   match h.bs[a]? with
   | some (.cells cs) => if off + n ≤ cs.length then some { h with bs := h.bs.set a (.cells (writeL cs off vs)) } else none
   | _ => none
  else none
 | _, _, _ => none
def newB (h : Heap) (b : Blk) : Heap := { h with bs := h.bs ++ [b] }
def fillL (place : Nat → Option (Nat × Nat)) (cs : List V) : List (Nat × V) → Option (List V)
 | [] => some cs
 | (i, v) :: rest =>
  match place i, v.cellsO with
  | some (off, sz), some vs => if vs.length = sz ∧ off + sz ≤ cs.length then fillL place (writeL cs off vs) rest else none
  | _, _ => none
def buildV (t : TypeId) (parts : List (Nat × V)) : Option V :=
 match zeroCs P t, P.underlying t with
 | some z, some (.struct _) => match placesO P t with
  | some places => (fillL (places.toArray[·]?) z parts).map .agg
  | none => none
 | some z, some (.array _ e) => match szO P e with
  | some n => (fillL (fun i => some (i * n, n)) z parts).map .agg
  | none => none
 | _, _ => none
def buildSliceV (t : TypeId) (len : Nat) (parts : List (Nat × V)) : Option V :=
 match elemOfSlice P t with
 | some e => match szO P e, zeroCs P e with
  | some n, some z => if len * n ≤ 65536 then
    (fillL (fun i => some (i * n, n)) ((List.replicate len z).flatten) parts).map fun cs => .row false true cs len none
   else none
  | _, _ => none
 | none => none
def buildSliceB (h : Heap) (t : TypeId) (len : Nat) (parts : List (Nat × V)) : Option (V × Heap) :=
 match elemOfSlice P t with
 | some e => match szO P e, zeroCs P e with
  | some n, some z => if len * n ≤ 65536 ∧ 0 < n then
    (fillL (fun i => some (i * n, n)) ((List.replicate len z).flatten) parts).map fun cs => (.slice h.bs.length 0 len n, newB h (.cells cs))
   else none
  | _, _ => none
 | none => none
def intOf? : V → Option Int
 | .int _ n => some n
 | _ => none
def cmpI (op : BinOp) (a b : Int) : Option V :=
 match op with
 | .eql => some (.bool (a == b))
 | .neq => some (.bool (a != b))
 | .lss => some (.bool (a < b))
 | .leq => some (.bool (a ≤ b))
 | .gtr => some (.bool (a > b))
 | .geq => some (.bool (a ≥ b))
 | _ => none
def arithI (op : BinOp) (k : IntKind) (a b : Int) : Option V :=
 match op with
 | .add => some (.int k (k.wrap (a + b)))
 | .sub => some (.int k (k.wrap (a - b)))
 | .mul => some (.int k (k.wrap (a * b)))
 | .quo => if b = 0 then none else some (.int k (k.wrap (a.tdiv b)))
 | .rem => if b = 0 then none else some (.int k (a.tmod b))
 | .and => some (.int k (k.wrap (BitVec.ofInt k.bits a &&& BitVec.ofInt k.bits b).toNat))
 | .or => some (.int k (k.wrap (BitVec.ofInt k.bits a ||| BitVec.ofInt k.bits b).toNat))
 | .xor => some (.int k (k.wrap (BitVec.ofInt k.bits a ^^^ BitVec.ofInt k.bits b).toNat))
 | .andNot => some (.int k (k.wrap (BitVec.ofInt k.bits a &&& ~~~(BitVec.ofInt k.bits b)).toNat))
 | .eql | .neq | .lss | .leq | .gtr | .geq => cmpI op a b
 | _ => none
def shiftI (op : BinOp) (k : IntKind) (a b : Int) : Option V :=
 if b < 0 then none
 else match op with
  | .shl => some (.int k (k.wrap (a * 2 ^ (min b.toNat k.bits))))
  | .shr => some (.int k (a.fdiv (2 ^ (min b.toNat k.bits))))
  | _ => none
def strLess : List UInt8 → List UInt8 → Bool
 | _, [] => false
 | [], _ :: _ => true
 | a :: x, b :: y => a < b || (a == b && strLess x y)
def strOp (op : BinOp) (a b : List UInt8) : Option V :=
 match op with
 | .add => if a.length + b.length ≤ 4611686018427387904 then some (.str (a ++ b)) else none
 | .eql => some (.bool (a == b))
 | .neq => some (.bool !(a == b))
 | .lss => some (.bool (strLess a b))
 | .leq => some (.bool (strLess a b || a == b))
 | .gtr => some (.bool !(strLess a b || a == b))
 | .geq => some (.bool !(strLess a b))
 | _ => none
def eqCell (t : TypeId) (x y : V) : Option Bool :=
 match P.underlying t, x, y with
 | some .bool, .bool a, .bool b => some (a == b)
 | some (.int _), .int k a, .int k' b => if k = k' then some (a == b) else none
 | some .string, .str a, .str b => some (a == b)
 | _, _, _ => none
def eqFields (xs ys : List V) : List Field → Option Bool
 | [] => some true
 | f :: fs =>
  if f.name ≠ "_" then
   match xs[f.offset]?, ys[f.offset]?, isAggO P f.type with
   | some x, some y, some false => match eqCell P f.type x y with
    | some true => eqFields xs ys fs
    | some false => some false
    | none => none
   | _, _, _ => none
  else eqFields xs ys fs
def eqElems (e : TypeId) : List V → List V → Option Bool
 | [], [] => some true
 | x :: xs, y :: ys => match eqCell P e x y with
  | some true => eqElems e xs ys
  | some false => some false
  | none => none
 | _, _ => none
def isConst : Operand → Bool
 | .const _ => true
 | _ => false
def isPtrLike : V → Bool
 | .ptr _ _ | .rptr _ => true
 | _ => false
def eqV (cst : Bool) (t : TypeId) (x y : V) : Option Bool :=
 match P.underlying t, x, y with
 | some .bool, .bool a, .bool b => some (a == b)
 | some (.pointer _), .nilptr, .nilptr => some true
 | some (.pointer _), .nilptr, .ptr _ _ | some (.pointer _), .nilptr, .rptr _ => some false
 | some (.pointer _), .ptr _ _, .nilptr | some (.pointer _), .rptr _, .nilptr => some false
 | some (.slice _), .row true _ _ _ _, .row true _ _ _ _ => some true
 | some (.slice _), .row true _ _ _ _, .row false fl cs _ tok => if (cs.isEmpty && tok.isNone) && !fl then none else some false
 | some (.slice _), .row false fl cs _ tok, .row true _ _ _ _ => if (cs.isEmpty && tok.isNone) && !fl then none else some false
 | some (.slice _), .slice _ _ _ _, .row true _ _ _ _ => some false
 | some (.slice _), .row true _ _ _ _, .slice _ _ _ _ => some false
 | some (.map _ _), .nilmap, .nilmap => some true
 | some (.map _ _), .map _, .nilmap | some (.map _ _), .nilmap, .map _ => some false
 | some (.func _ _ _), .nilfunc, .nilfunc => some true
 | some (.func _ _ _), .func _ _ _, .nilfunc | some (.func _ _ _), .nilfunc, .func _ _ _ => some false
 | some (.interface _), .niliface, .niliface => if cst then some true else none
 | some (.interface _), .iface _ _, .niliface | some (.interface _), .niliface, .iface _ _ => some false
 | some (.struct fs), .agg xs, .agg ys =>
  if P.eqGuardType P.depth t || P.stoodInHeld t then none else eqFields P xs ys fs.toList
 | some (.array len e), .agg xs, .agg ys =>
  if P.eqGuardType P.depth t then none
  else if isAggO P e = some false ∧ szO P e = some 1 ∧ xs.length = len ∧ ys.length = len then eqElems P e xs ys else none
 | _, _, _ => none
def binV (op : BinOp) (t : TypeId) (cst : Bool) (x y : V) : Option V :=
 match op, x, y with
 | .shl, .int k a, .int _ b | .shr, .int k a, .int _ b => shiftI op k a b
 | _, .int k a, .int k' b => if k = k' then arithI op k a b else none
 | _, .str a, .str b => strOp op a b
 | .eql, x, y => (eqV P cst t x y).map .bool
 | .neq, x, y => (eqV P cst t x y).map fun b => .bool !b
 | _, _, _ => none
def unV (op : UnOp) (x : V) : Option V :=
 match op, x with
 | .neg, .int k n => some (.int k (k.wrap (0 - n)))
 | .not, .bool b => some (.bool !b)
 | _, _ => none
def bytesOfCells : List V → Option (List UInt8)
 | [] => some []
 | .int .u8 n :: r => (bytesOfCells r).map (UInt8.ofNat n.toNat :: ·)
 | _ => none
def cellsOfBytes (s : List UInt8) : List V := s.map fun b => .int .u8 b.toNat
def sliceCells (h : Heap) (size : Nat) : V → Option (List V)
 | .row _ _ cs n _ => if cs.length = n * size then some cs else none
 | .slice a off len sz => if sz = size then (match h.bs[a]? with
  | some (.cells cs) | some (.frozen cs) => if off + len * size ≤ cs.length then some ((cs.drop off).take (len * size)) else none
  | _ => none) else none
 | .str s => if size = 1 then some (cellsOfBytes s) else none
 | _ => none
def lenO : V → Option Nat
 | .row _ _ _ n _ => some n
 | .slice _ _ n _ => some n
 | .str b => some b.length
 | _ => none
def isSl : V → Bool
 | .row _ _ _ _ _ | .slice _ _ _ _ => true
 | _ => false
def convV (h : Heap) (src dst : TypeId) (x : V) : Option (V × Heap) :=
 match P.underlying src, P.underlying dst, x with
 | some _, some (.int k), .int _ n => some (.int k (k.wrap n), h)
 | some .string, some .string, .str s => some (.str s, h)
 | some .string, some (.slice e), .str s => match P.underlying e, bytesO P e with
  | some (.int .u8), some _ => some (.slice h.bs.length 0 s.length 1, newB h (.cells (cellsOfBytes s)))
  | _, _ => none
 | some (.slice e), some .string, x => match P.underlying e with
  | some (.int .u8) => if isSl x then match sliceCells h 1 x with
    | some cs => (bytesOfCells cs).map fun s => (.str s, h)
    | none => none
   else none
  | _ => none
 | _, _, _ => none
def bound (n : Nat) (dflt : Nat) : Option V → Option Nat
 | none => some dflt
 | some (.int _ i) => if 0 ≤ i ∧ i.toNat ≤ n then some i.toNat else none
 | some _ => none
def sliceV (t : TypeId) (h : Heap) (x : V) (lo hi mx : Option V) : Option V :=
 match x with
 | .str s => match P.underlying t, mx with
  | some .string, none => match bound s.length s.length hi with
   | some b => match bound b 0 lo with
    | some a => some (.str ((s.take b).drop a))
    | none => none
   | none => none
  | _, _ => none
 | .row nl fl cs n tok => match elemOfSlice P t with
  | some e => match szO P e with
   | some size => if cs.length = n * size then
     match bound n n mx with
     | some m => match bound m (if mx.isSome then m else n) hi with
      | some b => match bound b 0 lo with
       | some a => if mx.isSome ∧ hi.isNone then none else
        some (.row nl ((mx.isSome && m == b && (nl || fl || !cs.isEmpty || tok.isSome)) || (mx.isNone && fl && b == n)) ((cs.take (b * size)).drop (a * size)) (b - a)
         (if mx.isNone ∧ b = n ∧ a = 0 then tok else none))
       | none => none
      | none => none
     | none => none
    else none
   | none => none
  | none => none
 | .slice a off len sz => match elemOfSlice P t with
  | some e => if szO P e = some sz then
    match bound len len mx with
    | some m => match bound m (if mx.isSome then m else len) hi with
     | some b => match bound b 0 lo with
      | some l => if (mx.isSome ∧ hi.isNone) ∨ m = l then none else some (.slice a (off + l * sz) (b - l) sz)
      | none => none
     | none => none
    | none => none
   else none
  | none => none
 | .ptr a off =>
  let arr : Option (Nat × TypeId) := match P.underlying t with
   | some (.array n e) => some (n, e)
   | some (.pointer ar) => match P.underlying ar with
    | some (.array n e) => some (n, e)
    | _ => none
   | _ => none
  match arr with
  | some (n, e) => match szO P e with
   | some size => match bound n n mx with
    | some m => match bound m (if mx.isSome then m else n) hi with
     | some b => match bound b 0 lo with
      | some l => match h.bs[a]? with
       | some (.cells cs) => if ((mx.isSome ∧ hi.isNone) ∨ m = l) ∨ cs.length < off + n * size then none else some (.slice a (off + l * size) (b - l) size)
       | _ => none
      | none => none
     | none => none
    | none => none
   | none => none
  | none => none
 | _ => none
def indexAddrV (t : TypeId) (x i : V) : Option V :=
 match x, intOf? i with
 | .row _ _ cs n _, some i => match elemOfSlice P t with
  | some e => match szO P e with
   | some size => if 0 ≤ i ∧ i.toNat < n ∧ i.toNat * size < cs.length then some (.rptr (cs.drop (i.toNat * size))) else none
   | none => none
  | none => none
 | .slice a off len sz, some i => match elemOfSlice P t with
  | some e => if szO P e = some sz ∧ 0 ≤ i ∧ i.toNat < len then some (.ptr a (off + i.toNat * sz)) else none
  | none => none
 | .ptr a off, some i => match P.underlying t with
  | some (.array n e) => match szO P e with
   | some size => if 0 ≤ i ∧ i.toNat < n then some (.ptr a (off + i.toNat * size)) else none
   | none => none
  | _ => none
 | .rptr cs, some i => match P.underlying t with
  | some (.array n e) => match szO P e with
   | some size => if 0 ≤ i ∧ i.toNat < n then some (.rptr (cs.drop (i.toNat * size))) else none
   | none => none
  | _ => none
 | _, _ => none
def indexV (t : TypeId) (x i : V) : Option V :=
 match x, intOf? i with
 | .agg cs, some i => match P.underlying t with
  | some (.array n e) => match szO P e with
   | some size => if 0 ≤ i ∧ i.toNat < n ∧ i.toNat * size + size ≤ cs.length then packV P e ((cs.drop (i.toNat * size)).take size) else none
   | none => none
  | _ => none
 | .str s, some i => match P.underlying t with
  | some .string => if 0 ≤ i then (s[i.toNat]?).map fun b => .int .u8 b.toNat else none
  | _ => none
 | _, _ => none
def fieldAddrV (s : TypeId) (x : V) (f : Nat) : Option V :=
 match fieldO P s f with
 | some (fo, _, n) => if n = 0 then none else match x with
   | .ptr a off => some (.ptr a (off + fo))
   | .rptr cs => some (.rptr (cs.drop fo))
   | _ => none
 | none => none
def fieldV (s : TypeId) (x : V) (f : Nat) : Option V :=
 match fieldO P s f, x with
 | some (fo, ft, n), .agg cs => if fo + n ≤ cs.length then packV P ft ((cs.drop fo).take n) else none
 | _, _ => none
def eqKey (kt : TypeId) (x y : V) : Option Bool :=
 match P.underlying kt, x, y with
 | some .bool, .bool a, .bool b => some (a == b)
 | some (.int _), .int k a, .int k' b => if k = k' then some (a == b) else none
 | some .string, .str a, .str b => some (a == b)
 | some (.array len e), .agg xs, .agg ys =>
  if isAggO P e = some false ∧ szO P e = some 1 ∧ xs.length = len ∧ ys.length = len then eqElems P e xs ys else none
 | _, _, _ => none
def findK (kt : TypeId) (k : V) : List (V × V × Nat) → Option (Option (Nat × V × Nat))
 | [] => some none
 | (k', v, b) :: r => match eqKey P kt k k' with
  | some true => some (some (0, v, b))
  | some false => match findK kt k r with
   | some (some (i, v, b)) => some (some (i + 1, v, b))
   | x => x
  | none => none
def keyOk (kt : TypeId) (k : V) : Bool :=
 match P.underlying kt, k with
 | some .bool, .bool _ | some (.int _), .int _ _ | some .string, .str _ => true
 | some (.array len e), .agg xs => (match P.underlying e with
  | some .bool | some (.int _) | some .string => true
  | _ => false) && xs.all V.one && xs.length == len && szO P e == some 1
 | _, _ => false
def ofValZ : Value → Option V
 | .agg cs => if (cs.toList.map ofVal).all V.one then some (.agg (cs.toList.map ofVal)) else none
 | v => if (ofVal v).one then some (ofVal v) else none
def zeroV (t : TypeId) : Option V :=
 match P.info? t with
 | some i => match i.zero with
  | some v => ofValZ v
  | none => none
 | none => none
def lookupV (h : Heap) (t : TypeId) (m k : V) (ok : Bool) : Option V :=
 match P.underlying t with
 | some (.map kt et) => if !keyOk P kt k then none else
  match (match m with
   | .nilmap => some none
   | .map a => match h.bs[a]? with
    | some (.map es _) => findK P kt k es
    | _ => none
   | _ => none : Option (Option (Nat × V × Nat))) with
  | some (some (_, v, _)) => some (if ok then .tuple [v, .bool true] else v)
  | some none => (zeroV P et).map fun z => if ok then .tuple [z, .bool false] else z
  | none => none
 | _ => none
def mapUpdV (h : Heap) (t : TypeId) (m k v : V) : Option Heap :=
 match P.underlying t with
 | some (.map kt _) => if !keyOk P kt k || (v.cellsO).isNone then none else
  match m with
  | .map a => match h.bs[a]? with
   | some (.map es clock) => match findK P kt k es with
    | some (some (i, _, b)) => some { h with bs := h.bs.set a (.map (es.set i (k, v, b)) clock) }
    | some none => some { h with bs := h.bs.set a (.map (es ++ [(k, v, clock)]) (clock + 1)) }
    | none => none
   | _ => none
  | _ => none
 | _ => none
def mapEntryV (h : Heap) (t : TypeId) (m k : V) : Option (V × Heap) :=
 match P.underlying t with
 | some (.map kt et) => if !keyOk P kt k then none else
  match m with
  | .map a => match h.bs[a]? with
   | some (.map es clock) => match findK P kt k es with
    | some (some (i, v, b)) => some (.tuple [v, .int .i64 b], { h with bs := h.bs.set a (.map (es.set i (k, v, b)) clock) })
    | some none => (zeroV P et).map fun z => (.tuple [z, .int .i64 clock], { h with bs := h.bs.set a (.map (es ++ [(k, z, clock)]) (clock + 1)) })
    | none => none
   | _ => none
  | _ => none
 | _ => none
def setBorn (born : Int) (v : V) : List (V × V × Nat) → Option (List (V × V × Nat))
 | [] => none
 | (k, w, b) :: r => if ((b : Int) == born) then some ((k, v, b) :: r) else (setBorn born v r).map ((k, w, b) :: ·)
def entryStoreV (h : Heap) (m stamp v : V) : Option Heap :=
 match m, stamp with
 | .map a, .int _ b => if (v.cellsO).isNone then none else match h.bs[a]? with
  | some (.map es clock) => match setBorn b v es with
   | some es' => some { h with bs := h.bs.set a (.map es' clock) }
   | none => none
  | _ => none
 | _, _ => none
def rangeV (h : Heap) (t : TypeId) (x : V) : Option (V × Heap) :=
 match P.underlying t with
 | some (.map _ _) => match x with
  | .nilmap => some (.ptr h.bs.length 0, newB h (.iter none 0 [] 0))
  | .map a => match h.bs[a]? with
   | some (.map _ clock) => some (.ptr h.bs.length 0, newB h (.iter (some a) clock [] clock))
   | _ => none
  | _ => none
 | _ => none
def entryV (h : Heap) : V → Option V
 | .ptr i 0 => match h.bs[i]? with
  | some (.iter (some a) _ seen last) => match seen.getLast?, h.bs[a]? with
   | some st, some (.map es clock) => if clock = last then (es.find? (fun e => e.2.2 == st)).map fun e => .tuple [e.1, e.2.1] else none
   | _, _ => none
  | _ => none
 | _ => none
def maxN (op : Builtin) : V → V → Option V
 | .int k x, .int _ y => match op with
  | .max => some (.int k (if y > x then y else x))
  | .min => some (.int k (if y < x then y else x))
  | _ => none
 | _, _ => none
def foldN (op : Builtin) : V → List V → Option V
 | x, [] => some x
 | x, y :: r => match maxN op x y with
  | some z => foldN op z r
  | none => none
def lenV (h : Heap) (t : TypeId) (x : V) : Option V :=
 match P.underlying t, x with
 | some .string, .str s => some (.int .i64 s.length)
 | some (.slice _), .row _ _ _ n _ => some (.int .i64 n)
 | some (.slice _), .slice _ _ n _ => some (.int .i64 n)
 | some (.array n _), _ => some (.int .i64 n)
 | some (.map _ _), .nilmap => some (.int .i64 0)
 | some (.map _ _), .map a => match h.bs[a]? with
  | some (.map es _) => some (.int .i64 es.length)
  | _ => none
 | _, _ => none
def smallRow (n bytes : Nat) : Bool := n ≤ 4294967296 && bytes ≤ 16384
def isIntD : TypeDesc → Bool
 | .int _ => true
 | _ => false
def appendE (h : Heap) (e : TypeId) (s x : V) : Option (V × Heap) :=
 match P.info? e, zeroCs P e with
 | some i, some _ =>
  match sliceCells h i.size x, lenO x with
  | some new, some m => match s with
   | .row nl fl cs n tok =>
    if cs.length = n * i.size ∧ 0 < i.size ∧ smallRow (n + m) i.bytes ∧ new.length = m * i.size then
     if m = 0 then some (s, h)
     else match tok with
      | some k => match h.ts[k]? with
       | some (some sz) => if sz = i.size then
         some (.row false false (cs ++ new) (n + m) (some h.ts.length), { h with ts := h.ts.set k none ++ [some i.size] })
        else none
       | _ => none
      | none => if nl || fl then
        some (.row false false (cs ++ new) (n + m) (some h.ts.length), { h with ts := h.ts ++ [some i.size] })
       else none
    else none
   | _ => none
  | _, _ => none
 | _, _ => none
def appendEB (h : Heap) (e : TypeId) (s x : V) : Option (V × Heap) :=
 match P.info? e, zeroCs P e with
 | some i, some _ =>
  match sliceCells h i.size x, lenO x with
  | some new, some m => match s with
   | .row nl fl cs n _ =>
    if cs.length = n * i.size ∧ 0 < i.size ∧ smallRow (n + m) i.bytes ∧ new.length = m * i.size then
     if m = 0 then some (s, h)
     else if nl || fl then some (.slice h.bs.length 0 (n + m) i.size, newB h (.cells (cs ++ new)))
     else none
    else none
   | .slice a off n sz => match h.bs[a]? with
    | some (.cells cs) =>
     if off = 0 ∧ sz = i.size ∧ cs.length = n * i.size ∧ 0 < i.size ∧ smallRow (n + m) i.bytes ∧ new.length = m * i.size then
      if m = 0 then some (s, h)
      else some (.slice h.bs.length 0 (n + m) i.size, newB { h with bs := h.bs.set a .dead } (.cells (cs ++ new)))
     else none
    | _ => none
   | _ => none
  | _, _ => none
 | _, _ => none
def appendV (h : Heap) (blk : Bool) (ts : Array TypeId) (s x : V) : Option (V × Heap) :=
 match ts[0]?, ts[1]? with
 | some t0, some t1 => match elemOfSlice P t0, P.underlying t1 with
  | some e, some d => if isIntD d then none else if blk then appendEB P h e s x else appendE P h e s (closeV x)
  | _, _ => none
 | _, _ => none
def makeSliceV (h : Heap) (t : TypeId) (lc mr : Bool) (l c : V) : Option (V × Heap) :=
 match elemOfSlice P t, intOf? l, intOf? c with
 | some e, some l, some c => match P.info? e, zeroCs P e with
  | some i, some z =>
   if 0 ≤ l ∧ l ≤ c ∧ smallRow c.toNat i.bytes ∧ 0 < i.size then
    if lc then
     if l = 0 then some (.row false false [] 0 (some h.ts.length), { h with ts := h.ts ++ [some i.size] }) else none
    else if l = c then (if mr then some (.row false true ((List.replicate l.toNat z).flatten) l.toNat none, h) else some (.slice h.bs.length 0 l.toNat i.size, newB h (.cells ((List.replicate l.toNat z).flatten))))
    else none
   else none
  | _, _ => none
 | _, _, _ => none
def operZero : Operand → Bool
 | .const (.int _ 0) => true
 | _ => false
def typeAssertV (x : V) (asserted : TypeId) (ok : Bool) : Option V :=
 match P.underlying asserted with
 | some (.interface _) => none
 | some _ => match x with
  | .iface t v => if t = asserted then some (if ok then .tuple [v, .bool true] else v)
    else if ok then (zeroV P asserted).map fun z => .tuple [z, .bool false] else none
  | .niliface => if ok then (zeroV P asserted).map fun z => .tuple [z, .bool false] else none
  | _ => none
 | none => none
end ops
def fnLike : V → Bool
 | .func _ _ _ => true
 | _ => false
def methV (P : Program) (t : TypeId) (name : String) : Option FuncId :=
 match P.info? t, P.underlying t with
 | some i, some d => match i.methods.find? (·.name == name) with
  | some m => if m.path.isEmpty then match m.func, d with
   | some (_, _), .pointer _ => none
   | some (f, false), _ => some f
   | _, _ => none
   else none
  | none => none
 | _, _ => none
def opR (c : Cfg) (h : Heap) (ev : Operand → V) (o : Oper) : Option OR :=
 let P := c.P
 let c' := c
 let v (x : Option V) : Option OR := x.map (.val · h)
 match o.op with
 | .move x | .assign x => some (.val (ev x) h)
 | .pick q a b => match ev q with
  | .bool t => some (.val (if t then ev a else ev b) h)
  | _ => none
 | .alloc e => match c'.bld e with
  | none => match zeroCs P e with
   | some z => some (.val (.ptr h.bs.length 0) (newB h (.cells z)))
   | none => none
  | some b => if e = b then none else match zeroCs P e with
   | some [.nilptr, .row true true [] 0 none] => some (.val (.ptr h.bs.length 0) (newB h (.bld e b false [])))
   | _ => none
 | .box e x => match (ev x).cellsO with
  | some cs => some (.val (.ptr h.bs.length 0) (newB h (.cells cs)))
  | none => none
 | .build t parts => v (buildV P t (parts.toList.map fun (i, x) => (i, ev x)))
 | .buildSlice t len parts => if c'.bsl o.pos then (buildSliceB P h t len (parts.toList.map fun (i, x) => (i, ev x))).map fun (x, h) => .val x h else v (buildSliceV P t len (parts.toList.map fun (i, x) => (i, ev x)))
 | .load t a => v (loadP P h t (ev a))
 | .store t a x => (storeP P h t (ev a) (ev x)).map .skip
 | .nilCheck x => match ev x with
  | .undef | .nilptr | .niliface | .nilfunc => none
  | .func (.func f) a b => some (.val (.func (.func f) a b) h)
  | .func _ _ _ => none
  | x => some (.val x h)
 | .binOp op t x y _ => v (binV P op t (isConst x || isConst y) (ev x) (ev y))
 | .unOp op _ x => v (unV op (ev x))
 | .convert src dst x => (convV P h src dst (ev x)).map fun (x, h) => .val x h
 | .makeInterface t x => match P.underlying t with
  | some (.interface _) => none
  | some _ => match ev x with
   | .undef => none
   | x => some (.val (.iface t x) h)
  | none => none
 | .makeFunc fn first captured => some (.val (.func fn (first.toList.map ev) (captured.toList.map ev)) h)
 | .makeMap t r => match r with
  | none => some (.val (.map h.bs.length) (newB h (.map [] 0)))
  | some x => match P.underlying t, intOf? (ev x) with
   | some (.map _ _), some _ => some (.val (.map h.bs.length) (newB h (.map [] 0)))
   | _, _ => none
 | .makeSlice t l c => (makeSliceV P h t (operZero l) (c'.mrow o.pos) (ev l) (ev c)).map fun (x, h) => .val x h
 | .slice t x lo hi mx => v (sliceV P t h (ev x) (lo.map ev) (hi.map ev) (mx.map ev))
 | .fieldAddr s x f => v (fieldAddrV P s (ev x) f)
 | .field t x f => v (fieldV P t (ev x) f)
 | .indexAddr t x i => v (indexAddrV P t (ev x) (ev i))
 | .index t x i => v (indexV P t (ev x) (ev i))
 | .lookup t m k ok => v (lookupV P h t (ev m) (ev k) ok)
 | .mapUpdate t m k x | .insert t m k x => (mapUpdV P h t (ev m) (ev k) (ev x)).map .skip
 | .typeAssert x _ a ok => v (typeAssertV P (ev x) a ok)
 | .range t x => (rangeV P h t (ev x)).map fun (x, h) => .val x h
 | .entry it => v (entryV h (ev it))
 | .extract t i => match ev t with
  | .tuple vs => v vs[i]?
  | _ => none
 | .defer cl => match cl.callee with
  | .value f => if !fnLike (ev f) then none else some (.dfr (.call (ev f) (cl.args.toList.map ev)))
  | _ => none
 | .panic x => match ev x with
  | .iface t y => some (.pan (.iface t y))
  | _ => none
 | .call cl => match cl.callee with
  | .value f => some (.call (ev f) (cl.args.toList.map ev))
  | .invoke r m => match ev r with
   | .iface t x => (methV P t m).map fun f => .call (.func (.func f) [] []) (x :: cl.args.toList.map ev)
   | _ => none
  | .builtin .len => match cl.argTypes[0]?, cl.args[0]? with
   | some t, some x => v (lenV P h t (ev x))
   | _, _ => none
  | .builtin .append => match cl.args[0]?, cl.args[1]? with
   | some s, some x => (appendV P h (c.blk o.pos) cl.argTypes (ev s) (ev x)).map fun (x, h) => .val x h
   | _, _ => none
  | .builtin .max => match cl.args.toList with
   | [] => none
   | x :: r => v (foldN .max (ev x) (r.map ev))
  | .builtin .min => match cl.args.toList with
   | [] => none
   | x :: r => v (foldN .min (ev x) (r.map ev))
  | .builtin .recover => some .recover
  | _ => none
 | _ => none
def wantedV (ops : Array Oper) (o : Oper) (t : List V) : Option Bool :=
 match o.guard with
 | none => some true
 | some (j, w) => match ops[j]? with
  | some g => match g.dst with
   | some d => match t[d]? with
    | some (.bool b) => some (b == w)
    | some .undef | none => none
    | some _ => some false
   | none => none
  | none => none
abbrev CallF := V → List V → Heap → Option (CRes × Heap)
def tmpsOf (xs : Array Operand) : List Nat := xs.toList.filterMap fun | .tmp t => some t | _ => none
def readsOf (ops : Array Oper) (o : Oper) : List Nat :=
 tmpsOf o.op.operands ++ (match o.guard with
  | some (j, _) => match ops[j]? with
   | some g => g.dst.toList
   | none => []
  | none => [])
def clsOf (c : Cfg) (o : Oper) : Nat :=
 match o.op with
 | .buildSlice .. => if c.bsl o.pos then 2 else 0
 | .move _ | .assign _ | .pick .. | .build .. | .nilCheck _ | .binOp .. | .unOp .. | .makeInterface .. | .makeFunc ..
 | .fieldAddr .. | .field .. | .indexAddr .. | .index .. | .typeAssert .. | .extract .. => 0
 | .load .. | .lookup .. | .slice .. => 1
 | .alloc _ | .box .. => 3
 | .makeSlice _ l _ => if c.mrow o.pos && !operZero l then 0 else 2
 | .convert _ dst _ => match c.P.underlying dst with
  | some (.int _) => 0
  | some .string => 1
  | _ => 2
 | .call cl => match cl.callee with
  | .value (.func f) => if c.pure f then 0 else 2
  | .builtin .len => match cl.argTypes[0]? with
   | some t => match c.P.underlying t with
    | some (.slice _) | some .string => 0
    | _ => 1
   | none => 1
  | .builtin .max | .builtin .min => 0
  | _ => 2
 | _ => 2
def stayT (ops : Array Oper) : Operand → Bool
 | .tmp i => ops.toList.all fun o => o.dst != some i
 | _ => true
def lcall (c : Cfg) (o : Oper) : Bool :=
 match o.op with
 | .call cl => match cl.callee with
  | .value _ => clsOf c o == 2
  | _ => false
 | _ => false
def isSlc (o : Oper) : Bool :=
 match o.op with
 | .slice _ _ _ _ _ => true
 | _ => false
def isLoad (o : Oper) : Bool :=
 match o.op with
 | .load _ _ => true
 | _ => false
def isLoadS (ops : Array Oper) (o : Oper) : Bool :=
 match o.op with
 | .load _ p => stayT ops p
 | _ => false
def isStore (o : Oper) : Bool :=
 match o.op with
 | .store _ _ _ => true
 | _ => false
def isLook (o : Oper) : Bool :=
 match o.op with
 | .lookup _ _ _ _ | .slice _ _ _ _ _ => true
 | _ => false
def lapp (c : Cfg) (o : Oper) : Bool :=
 match o.op with
 | .call cl => match cl.callee with
  | .builtin .append => !c.blk o.pos
  | _ => false
 | _ => false
def growOk (c : Cfg) (ops : Array Oper) : Bool := ops.toList.all fun o => clsOf c o == 0 || clsOf c o == 1 || clsOf c o == 3 || lcall c o || isStore o || lapp c o
def indep (c : Cfg) (ops : Array Oper) (a b : Oper) : Bool :=
 (match a.dst with
  | some d => b.dst != some d && !(readsOf ops b).contains d
  | none => true) &&
 (match b.dst with
  | some d => !(readsOf ops a).contains d
  | none => true) &&
 (clsOf c a == 0 || clsOf c b == 0 || (clsOf c a == 1 && clsOf c b == 1) || (clsOf c a == 1 && clsOf c b == 3) || (isLoad a && lcall c b) || (lcall c a && isLoadS ops b && growOk c ops) || (isLoad a && lapp c b) || (lapp c a && isLoad b) || (lcall c a && clsOf c b == 3) || (clsOf c a == 3 && lcall c b) || (isSlc a && lapp c b) || (lapp c a && isSlc b) || (isLook a && isStore b))
def befores (ops : Array Oper) : List (List Nat) :=
 ops.toList.foldl (init := []) fun acc o =>
  acc ++ [o.after.toList.foldl (init := []) fun s e => if Region.binds .any e then e.on :: (acc.getD e.on [] ++ s) else s]
def edgesBack (ops : Array Oper) : Bool :=
 ops.toList.zipIdx.all fun (o, i) => o.after.toList.all fun e => !Region.binds .any e || e.on < i
def layPair (c : Cfg) (ops : Array Oper) : Bool :=
 (List.range ops.size).any fun i => (List.range i).any fun a =>
  !((befores ops).getD i []).contains a &&
  (match ops[a]?, ops[i]? with
   | some x, some y => isLoad x && lcall c y || lcall c x && isLoad y
   | _, _ => false)
def qPair (c : Cfg) (ops : Array Oper) : Bool :=
 (List.range ops.size).any fun i => (List.range i).any fun a =>
  !((befores ops).getD i []).contains a &&
  (match ops[a]?, ops[i]? with
   | some x, some y => clsOf c x == 3 && lcall c y || lcall c x && clsOf c y == 3
   | _, _ => false)
def quietV (c : Cfg) : V → Bool
 | .func (.func f) [] [] => c.pure f
 | _ => false
def layOp (c : Cfg) (o : Oper) : Bool :=
 (match o.op with
  | .call cl => match cl.callee with
   | .value _ => false
   | _ => true
  | _ => true) && (clsOf c o == 0 || clsOf c o == 1 || clsOf c o == 3 || lapp c o)
def layCode (c : Cfg) : Code → Bool
 | .skip | .ret => true
 | .seq a b => layCode c a && layCode c b
 | .cond _ a b => layCode c a && layCode c b
 | .region _ ops _ => ops.toList.all (layOp c)
 | _ => false
def layV (c : Cfg) : V → Bool
 | .func (.func f) _ _ => (!c.pure f && !c.natb f) && (match c.P.funcs[f]? with
  | some fn => match fn.body with
   | some code => layCode c code
   | none => false
  | none => false)
 | _ => false
def lcBad (c : Cfg) (ops : Array Oper) : Bool := ops.toList.any fun o => match o.op with
 | .call cl => match cl.callee with
  | .value (.func f) => clsOf c o == 2 && (qPair c ops || (!layV c (.func (.func f) [] []) && layPair c ops))
  | _ => false
 | _ => false
def drawOk (c : Cfg) (ops : Array Oper) : Bool :=
 (edgesBack ops && !lcBad c ops) &&
 (List.range ops.size).all fun i => (List.range i).all fun a =>
  ((befores ops).getD i []).contains a ||
  (match ops[a]?, ops[i]? with
   | some x, some y => indep c ops x y
   | _, _ => false)
def noB (b : Nat) : V → Bool
 | .ptr a _ | .slice a _ _ _ => a != b
 | _ => true
def plainOps (c : Cfg) (ops : Array Oper) : Bool := ops.toList.all fun o => clsOf c o == 0 || clsOf c o == 1 || clsOf c o == 3 || isStore o || lapp c o
def storeL (c : Cfg) (ops : Array Oper) (t : List V) : List Oper → Option (List Nat)
 | [] => some []
 | o :: r => match o.op with
  | .store _ q _ => match storeL c ops t r, stayT ops q, evT c t q with
   | some l, true, .ptr b _ => some (b :: l)
   | _, _, _ => none
  | _ => storeL c ops t r
def cleanV (c : Cfg) (ops : Array Oper) (t : List V) (h : Heap) (b : Nat) : V → Bool
 | .ptr a _ => plainOps c ops && (match storeL c ops t ops.toList with
   | some l => !l.contains a
   | none => false) && (match h.bs[a]? with
   | some (.cells cs) => cs.all (noB b)
   | _ => false)
 | .rptr _ => false
 | _ => true
def cleanP (c : Cfg) (ops : Array Oper) (t : List V) (h : Heap) (b : Nat) : Operand → Bool
 | .tmp e => cleanV c ops t h b (t.getD e .undef) && ops.toList.all fun o => o.dst != some e || (match o.op with
  | .fieldAddr _ x _ => stayT ops x && cleanV c ops t h b (evT c t x)
  | _ => false)
 | _ => false
def farFrom (c : Cfg) (ops : Array Oper) (t : List V) (h : Heap) (b : Nat) : Nat → Operand → Bool
 | 0, .tmp d => noB b (t.getD d .undef) && ops.toList.all fun o => o.dst != some d
 | n + 1, .tmp d => noB b (t.getD d .undef) && ops.toList.all fun o => o.dst != some d || (match o.op with
  | .fieldAddr _ x _ => farFrom c ops t h b n x
  | .indexAddr _ x _ => farFrom c ops t h b n x
  | .load _ x => cleanP c ops t h b x
  | .nilCheck x => farFrom c ops t h b n x
  | .move x => farFrom c ops t h b n x
  | _ => false)
 | _, _ => true
def atB (b : Nat) : V → Bool
 | .ptr a _ | .slice a _ _ _ => a == b
 | _ => true
def baseV : V → Option Nat
 | .ptr a _ | .slice a _ _ _ => some a
 | _ => none
def atFrom (c : Cfg) (ops : Array Oper) (t : List V) (b : Nat) : Nat → Operand → Bool
 | 0, .tmp d => atB b (t.getD d .undef) && ops.toList.all fun o => o.dst != some d
 | n + 1, .tmp d => atB b (t.getD d .undef) && ops.toList.all fun o => o.dst != some d || (match o.op with
  | .fieldAddr _ x _ => atFrom c ops t b n x
  | .indexAddr _ x _ => atFrom c ops t b n x
  | _ => false)
 | _, _ => true
def rootB (c : Cfg) (ops : Array Oper) (t : List V) : Nat → Operand → Option Nat
 | 0, q => if stayT ops q then baseV (evT c t q) else none
 | n + 1, .tmp d => if stayT ops (.tmp d) then baseV (evT c t (.tmp d)) else
  match ops.toList.find? (fun o => o.dst == some d) with
  | some o => (match o.op with
   | .fieldAddr _ x _ => rootB c ops t n x
   | .indexAddr _ x _ => rootB c ops t n x
   | _ => none)
  | none => none
 | _ + 1, _ => none
def apartO (c : Cfg) (ops : Array Oper) (t : List V) (h : Heap) (a b : Oper) : Bool :=
 (match a.dst with
  | some d => b.dst != some d && !(readsOf ops b).contains d
  | none => true) &&
 (match b.dst with
  | some d => !(readsOf ops a).contains d
  | none => true) &&
 (match a.op, b.op with
  | .load _ p, .store _ q _ => (match rootB c ops t 3 q with
   | some b => atFrom c ops t b 3 q && farFrom c ops t h b 3 p
   | none => false)
  | _, _ => false)
def drawOkT (c : Cfg) (ops : Array Oper) (t : List V) (h : Heap) : Bool :=
 (edgesBack ops && !lcBad c ops) &&
 (List.range ops.size).all fun i => (List.range i).all fun a =>
  ((befores ops).getD i []).contains a ||
  (match ops[a]?, ops[i]? with
   | some x, some y => indep c ops x y || apartO c ops t h x y
   | _, _ => false)
def badC (c : Cfg) (lp qp : Bool) (o : Oper) (f : V) (args : List V) : Bool :=
 if clsOf c o == 0 then !V.closed.closedL args else !((quietV c f && V.closed.closedL args) || ((layV c f || !lp) && !qp))
def pivot (ops : Array Oper) (i : Nat) : Bool :=
 (List.range ops.size).all fun j => j == i || ((befores ops).getD i []).contains j || ((befores ops).getD j []).contains i
def execOps (c : Cfg) (C : CallF) (q : Bool) (ops : Array Oper) : List Nat → St → Option (Ax × St)
 | [], s => some (.normal, s)
 | i :: l, s =>
  match ops[i]? with
  | none => none
  | some o =>
   match wantedV ops o s.t with
   | none => none
   | some false => execOps c C q ops l { s with t := putT s.t o.dst (.tuple []) }
   | some true =>
    match opR c s.h (evT c s.t) o with
    | none => none
    | some (.val v h) => execOps c C q ops l { s with t := putT s.t o.dst v, h }
    | some (.skip h) => execOps c C q ops l { s with t := putT s.t o.dst (.tuple []), h }
    | some (.dfr d) => if s.ro.isSome then none else execOps c C q ops l { s with t := putT s.t o.dst (.tuple []), d := d :: s.d }
    | some (.pan v) => if q && !pivot ops i then none else some (.panic v, s)
    | some .recover => if s.ro.isSome then none else match s.p with
     | .pan v => execOps c C q ops l { s with t := putT s.t o.dst v, p := .got v }
     | _ => execOps c C q ops l { s with t := putT s.t o.dst .niliface }
    | some (.call f args) =>
     if q && badC c (layPair c ops) (qPair c ops) o f args then none else
     match C f args s.h with
     | some (.ret v, h) => execOps c C q ops l { s with t := putT s.t o.dst v, h }
     | some (.panic v, h) => if q && !pivot ops i then none else some (.panic v, { s with h })
     | none => none
def writtenOps : List Oper → List Nat
 | [] => []
 | o :: l => (match o.op with | .assign _ => [] | _ => o.dst.toList) ++ writtenOps l
def scanOps (ops : Array Oper) : List Oper → List Nat × List Nat → List Nat × List Nat
 | [], x => x
 | o :: l, (w, r) => scanOps ops l (o.dst.toList ++ w, ((readsOf ops o).filter fun t => !w.contains t) ++ r)
def scanCode : Code → List Nat × List Nat → List Nat × List Nat
 | .region _ ops _, x => scanOps ops ops.toList x
 | .seq a b, x => scanCode b (scanCode a x)
 | .cond q a b, (w, r) =>
  let r := (match q with | .tmp t => if w.contains t then [] else [t] | _ => []) ++ r
  let (_, ra) := scanCode a (w, r)
  let (_, rb) := scanCode b (w, ra)
  (w, rb)
 | .block _ b, (w, r) => let (_, r') := scanCode b (w, r); (w, r')
 | .loop b, (w, r) => let (_, r') := scanCode b (w, r); (w, r')
 | .scope b, (w, r) => let (_, r') := scanCode b (w, r); (w, r')
 | .rangeFunc f _ a b, (w, r) =>
  let r := (match f with | .tmp t => if w.contains t then [] else [t] | _ => []) ++ r
  let (_, ra) := scanCode b (scanCode a (w, r))
  (w, ra)
 | _, x => x
def writtenCode : Code → List Nat
 | .region _ ops _ => writtenOps ops.toList
 | .seq a b | .cond _ a b => writtenCode a ++ writtenCode b
 | .block _ b | .loop b | .scope b => writtenCode b
 | .rangeFunc _ _ a b => writtenCode a ++ writtenCode b
 | _ => []
def killSet (b : Code) : List Nat :=
 let r := (scanCode b ([], [])).2
 (writtenCode b).filter fun t => !r.contains t
def killT (ks : List Nat) (t : List V) : List V := ks.foldl (fun t k => t.set k .undef) t
def killS (c : Cfg) (b : Code) (s : St) : St := if c.kill then { s with t := killT (killSet b) s.t } else s
abbrev ExecF := Code → St → Option (Ax × St)
def rangeGo (c : Cfg) (C : CallF) (s : St) (f : Operand) (ps : Array Tmp) (assign body : Code) (h : Heap) (db : Nat) (d : List Def) : Option (Ax × St) :=
 match C (evT c s.t f) [.yld h.bs.length] (newB h (.loop s.t ps.toList assign body .ready none db)) with
 | some (.ret _, h') => match h'.bs[h.bs.length]? with
  | some (.loop t p as bo st pend db') =>
   if st = .busy then none else
   let s' : St := { s with h := { h' with bs := h'.bs.set h.bs.length (.loop t p as bo .exhausted pend db') }, d }
   match pend with
   | none => some (.normal, s')
   | some .ret => some (.ret, s')
   | some (.exit id) => some (.exit id, s')
   | _ => none
  | _ => none
 | some (.panic v, h') => some (.panic v, { s with h := h', d })
 | none => none
def readyG (ops : Array Oper) (listed : Array Bool) : List Nat :=
 (List.range ops.size).filter fun i => !listed.getD i true && ((ops[i]?).map (·.after.all fun e => !Region.binds .any e || listed.getD e.on false)).getD false
def ordersG (ops : Array Oper) : Nat → Array Bool → List (List Nat)
 | 0, _ => [[]]
 | n + 1, listed => if readyG ops listed = [] then [[]] else (readyG ops listed).flatMap fun i => (ordersG ops n (listed.setIfInBounds i true)).map (i :: ·)
def SemOk (c : Cfg) (C : CallF) (ops : Array Oper) (s : St) : Prop :=
 ∀ l ∈ ordersG ops ops.size (Array.replicate ops.size false), ∃ r, execOps c C false ops l s = some r ∧ execOps c C false ops (List.range ops.size) s = some r
def flatS (ops : Array Oper) (s : St) : St := { s with t := killT (writtenOps ops.toList) s.t }
def SemP (c : Cfg) (C : CallF) (ops : Array Oper) (s : St) (v : V) (r : St) : Prop :=
 ∀ l ∈ ordersG ops ops.size (Array.replicate ops.size false), ∃ s', execOps c C false ops l s = some (.panic v, s') ∧ flatS ops s' = r
noncomputable def semPan (c : Cfg) (C : CallF) (ops : Array Oper) (s : St) : Option (Ax × St) → Option (Ax × St)
 | some (.panic v, s') => @ite _ (SemP c C ops s v (flatS ops s')) (Classical.propDecidable _) (some (.panic v, flatS ops s')) none
 | _ => none
noncomputable def semRun (c : Cfg) (C : CallF) (ops : Array Oper) (s : St) : Option (Ax × St) :=
 @ite _ (SemOk c C ops s) (Classical.propDecidable _) (execOps c C false ops (List.range ops.size) s) (semPan c C ops s (execOps c C false ops (List.range ops.size) s))
theorem semPan_some {c : Cfg} {C : CallF} {ops : Array Oper} {s : St} {x : Option (Ax × St)} {r : Ax × St} (h : semPan c C ops s x = some r) :
  ∃ v s', x = some (.panic v, s') ∧ SemP c C ops s v (flatS ops s') ∧ r = (.panic v, flatS ops s') := by
 unfold semPan at h
 split at h
 ·split at h
  ·rename_i hs
   simp only [Option.some.injEq] at h
   exact ⟨_, _, rfl, hs, h.symm⟩
  ·cases h
 ·cases h
theorem semPan_is {c : Cfg} {C : CallF} {ops : Array Oper} {s s' : St} {v : V} (h : SemP c C ops s v (flatS ops s')) : semPan c C ops s (some (.panic v, s')) = some (.panic v, flatS ops s') := by
 unfold semPan
 exact if_pos h
def isLayR (c : Cfg) (o : Oper) : Bool :=
 match o.op with
 | .alloc _ => true
 | .makeSlice _ l _ => !operZero l && !c.mrow o.pos
 | _ => false
def rankR (c : Cfg) (ops : Array Oper) (i : Nat) : Nat := ((List.range i).filter fun j => ((ops[j]?).map (isLayR c)).getD false).length
def layR (c : Cfg) (ev : Operand → V) (o : Oper) (n : Nat) : Option (V × List V) :=
 match o.op with
 | .alloc e => (zeroCs c.P e).map fun z => (.ptr n 0, z)
 | .makeSlice t l cc => match makeSliceV c.P ⟨[], []⟩ t false false (ev l) (ev cc) with
  | some (.slice _ _ m sz, ⟨[.cells cs], _⟩) => some (.slice n 0 m sz, cs)
  | _ => none
 | _ => none
def stepR (c : Cfg) (ops : Array Oper) (base i : Nat) (s : St) : Option St :=
 match ops[i]? with
 | none => none
 | some o => if o.guard.isSome then none else
  if isLayR c o then match layR c (evT c s.t) o (base + rankR c ops i), s.h.bs[base + rankR c ops i]? with
   | some (v, cs), some .res => some { s with t := putT s.t o.dst v, h := { s.h with bs := s.h.bs.set (base + rankR c ops i) (.cells cs) } }
   | _, _ => none
  else match opR c s.h (evT c s.t) o with
   | some (.val v h) => some { s with t := putT s.t o.dst v, h }
   | some (.skip h) => some { s with t := putT s.t o.dst (.tuple []), h }
   | _ => none
def runR (c : Cfg) (ops : Array Oper) (base : Nat) : List Nat → St → Option St
 | [], s => some s
 | i :: l, s => match stepR c ops base i s with
  | some s => runR c ops base l s
  | none => none
def reserveR (c : Cfg) (ops : Array Oper) (s : St) : St := { s with h := { s.h with bs := s.h.bs ++ List.replicate (rankR c ops ops.size) .res } }
def SemOkR (c : Cfg) (ops : Array Oper) (s r : St) : Prop :=
 ∀ l ∈ ordersG ops ops.size (Array.replicate ops.size false), runR c ops s.h.bs.length l (reserveR c ops s) = some r
def hasR (c : Cfg) (ops : Array Oper) : Bool := ops.toList.any (isLayR c) && ops.toList.any isStore
noncomputable def semRun2 (c : Cfg) (C : CallF) (ops : Array Oper) (s : St) : Option (Ax × St) :=
 @dite _ (hasR c ops = true ∧ ∃ r, SemOkR c ops s r) (Classical.propDecidable _) (fun h => some (.normal, h.2.choose)) (fun _ => if hasR c ops then none else semRun c C ops s)
noncomputable def execS (c : Cfg) (E : ExecF) (C : CallF) : ExecF
 | .skip, s | .label _, s => some (.normal, s)
 | .seq a b, s => match E a s with
  | some (.normal, s') => E b s'
  | r => r
 | .cond q a b, s => match evT c s.t q with
  | .bool true => E a s
  | .bool false => E b s
  | _ => none
 | .block id b, s => match E b s with
  | some (.exit id', s') => if id' = id then some (.normal, s') else some (.exit id', s')
  | r => r
 | .loop b, s => match E b (killS c b s) with
  | some (.normal, s') => E (.loop b) s'
  | some (ax, s') => some (ax, killS c b s')
  | none => none
 | .region _ ops draw, s => if draw && !(drawOk c ops || drawOkT c ops s.t s.h) then semRun2 c C ops s else execOps c C draw ops (List.range ops.size) s
 | .scope b, s => E b s
 | .exit id, s => some (.exit id, s)
 | .ret, s => some (.ret, s)
 | .rangeFunc f ps assign body, s =>
  if !fnLike (evT c s.t f) then none else
  match s.ro with
  | none => rangeGo c C s f ps assign body (newB s.h (.dfr true)) s.h.bs.length (.mark s.h.bs.length :: s.d)
  | some l => match s.h.bs[l]? with
   | some (.loop _ _ _ _ _ _ db) => rangeGo c C s f ps assign body s.h db s.d
   | _ => none
 | _, _ => none
def readRes (P : Program) (h : Heap) (t : List V) : List ResultVar → Option (List V)
 | [] => some []
 | .tmp i :: r => (readRes P h t r).map (t.getD i .undef :: ·)
 | .cell a ty :: r => match loadP P h ty (t.getD a .undef), readRes P h t r with
  | some v, some vs => some (v :: vs)
  | _, _ => none
def packRes : List V → V
 | [v] => v
 | vs => .tuple vs
inductive Md where
 | ret
 | pan (v : V)
abbrev DCallF := V → List V → Heap → Pan → Option (Heap × Pan)
def leaveS (D : DCallF) : List Def → Heap → Md → Option (Heap × Md)
 | [], h, m => some (h, m)
 | .mark a :: ds, h, m => match h.bs[a]? with
  | some (.dfr true) => leaveS D ds { h with bs := h.bs.set a (.dfr false) } m
  | _ => none
 | .call fv args :: ds, h, .ret => match D fv args h .no with
  | some (h, .no) => leaveS D ds h .ret
  | _ => none
 | .call fv args :: ds, h, .pan v => match D fv args h (.pan v) with
  | some (h, .pan v) => leaveS D ds h (.pan v)
  | some (h, .got _) => leaveS D ds h .ret
  | _ => none
def initT (fn : Func) (args : List V) : List V := args ++ List.replicate (fn.ntmps - args.length) (.tuple [])
def bodyS (c : Cfg) (E : ExecF) (D : DCallF) (f : FuncId) (args : List V) (h : Heap) : Option (CRes × Heap) :=
 match c.P.funcs[f]? with
 | none => none
 | some fn => match fn.body with
  | none => none
  | some code =>
   let fin (s : St) (m : Md) : Option (CRes × Heap) :=
    match leaveS D s.d s.h m with
    | some (h, .ret) => match readRes c.P h s.t fn.results.toList with
     | some vs => some (.ret (packRes vs), h)
     | none => none
    | some (h, .pan v) => some (.panic v, h)
    | none => none
   match E code { t := initT fn args, h, d := [], p := .no, ro := none } with
   | some (.normal, s) | some (.ret, s) => fin s .ret
   | some (.panic v, s) => fin s (.pan v)
   | _ => none
def dbodyS (c : Cfg) (E : ExecF) (fv : V) (args : List V) (h : Heap) (p : Pan) : Option (Heap × Pan) :=
 match fv with
 | .func (.func f) first cap => match c.P.funcs[f]? with
  | none => none
  | some fn => match fn.body with
   | none => none
   | some code => match E code { t := initT fn (first ++ args ++ cap), h, d := [], p, ro := none } with
    | some (.normal, s) | some (.ret, s) => match s.d, readRes c.P s.h s.t fn.results.toList with
     | [], some _ => some (s.h, s.p)
     | _, _ => none
    | _ => none
 | _ => none
def pure1 (g : V → Option V) (h : Heap) : V → Option V
 | .row _ _ cs n _ => (pure1L cs).map fun cs => .row false false cs n none
 | .slice a off len sz => match h.bs[a]? with
  | some (.frozen cs) => if off + len * sz ≤ cs.length then (mapO ((cs.drop off).take (len * sz))).map fun cs => .row false false cs len none else none
  | _ => none
 | .func fn a b => match pure1L a, pure1L b with
  | some a, some b => some (.func fn a b)
  | _, _ => none
 | .iface t v => (pure1 g h v).map (.iface t)
 | .agg cs => (pure1L cs).map .agg
 | .tuple vs => (pure1L vs).map .tuple
 | .undef | .ptr _ _ | .map _ | .yld _ | .rptr _ => none
 | v => some v
where
 pure1L : List V → Option (List V)
  | [] => some []
  | v :: vs => match pure1 g h v, pure1L vs with
   | some v, some vs => some (v :: vs)
   | _, _ => none
 mapO : List V → Option (List V)
  | [] => some []
  | v :: vs => match g v, mapO vs with
   | some v, some vs => some (v :: vs)
   | _, _ => none
def pureN (h : Heap) : Nat → V → Option V
 | 0 => fun _ => none
 | n + 1 => pure1 (pureN h n) h
def reach1 (g : Nat → List Nat) : V → List Nat
 | .slice a _ _ _ => g a
 | .row _ _ cs _ _ => reach1L cs
 | .func _ a b => reach1L a ++ reach1L b
 | .agg cs => reach1L cs
 | .tuple cs => reach1L cs
 | .iface _ v => reach1 g v
 | _ => []
where reach1L : List V → List Nat
 | [] => []
 | v :: vs => reach1 g v ++ reach1L vs
def reachN (h : Heap) : Nat → V → List Nat
 | 0 => fun _ => []
 | n + 1 => reach1 fun a => a :: (match h.bs[a]? with
  | some (.cells cs) | some (.frozen cs) => cs.flatMap (reachN h n)
  | _ => [])
def freezeB (h : Heap) (a : Nat) : Heap :=
 match h.bs[a]? with
 | some (.cells cs) => { h with bs := h.bs.set a (.frozen cs) }
 | _ => h
def freezeAll (h : Heap) (as : List Nat) : Heap := as.foldl freezeB h
def handV (h : Heap) (vs : List V) : Option (List V × Heap) :=
 if V.closed.closedL vs then some (V.norm.normL vs, h)
 else
  let h := freezeAll h (vs.flatMap (reachN h 8))
  (pure1.mapO (pureN h 8) vs).map fun vs => (vs, h)
def emptyH : Heap := ⟨[], []⟩
def outS : Option (CRes × Heap) → Option CRes
 | some (.ret v, h) => match handV h [v] with
  | some ([v], _) => some (.ret v)
  | _ => none
 | some (.panic v, h) => match handV h [v] with
  | some ([v], _) => some (.panic v)
  | _ => none
 | none => none
def roundS (E : ExecF) (a : Nat) (args : List V) (h : Heap) : Option (CRes × Heap) :=
 match h.bs[a]? with
 | some (.loop t ps assign body .ready none db) =>
  if args.length ≠ ps.length then none else
  match E assign { t := (ps.zip args).foldl (fun t (x : Nat × V) => t.set x.1 x.2) t, h, d := [], p := .no, ro := some a } with
  | some (.normal, s) => match s.h.bs[a]? with
   | some (.loop t' ps' assign' body' .ready none db') =>
    let fin (s : St) (j : Option Code) : Option (CRes × Heap) :=
     match s.h.bs[a]? with
     | some (.loop t' ps' assign' body' _ _ db') =>
      some (.ret (.bool j.isNone), { s.h with bs := s.h.bs.set a (.loop t' ps' assign' body' (if j.isNone then .ready else .done) j db') })
     | _ => none
    match E body { s with h := { s.h with bs := s.h.bs.set a (.loop t' ps' assign' body' .busy none db') } } with
    | some (.normal, s) => fin s none
    | some (.ret, s) => fin s (some .ret)
    | some (.exit id, s) => fin s (some (.exit id))
    | _ => none
   | _ => none
  | _ => none
 | _ => none
def callS (c : Cfg) (E : ExecF) (D : DCallF) (fv : V) (args : List V) (h : Heap) : Option (CRes × Heap) :=
 match fv with
 | .func (.func f) first cap =>
  if c.pure f then
   match handV h (first ++ args ++ cap) with
   | some (xs, h) => match c.ext f xs with
    | some r => some (r, h)
    | none => (outS (bodyS c E D f xs emptyH)).map fun r => (r, h)
   | none => none
  else if c.natb f then c.nat f (first ++ args ++ cap) h
  else bodyS c E D f (first ++ args ++ cap) h
 | .yld a => roundS E a args h
 | _ => none
structure Rn where
 E : ExecF
 C : CallF
 D : DCallF
noncomputable def run (c : Cfg) : Nat → Rn
 | 0 => ⟨fun _ _ => none, fun _ _ _ => none, fun _ _ _ _ => none⟩
 | n + 1 => ⟨execS c (run c n).E (run c n).C, callS c (run c n).E (run c n).D, dbodyS c (run c n).E⟩
end Go.Ab
namespace Go.Ab
open Go.RowKit (Below)
structure TokI where
 B : Nat
 e : Nat
 m : Nat
 sz : Nat
inductive Own where
 | blk (a : Nat)
 | tok (k : Nat)
 deriving DecidableEq
structure Gh where
 G : Nat → Nat → Option Value
 mu : Nat → Option Nat
 ta : Nat → Option TokI
 be : Nat → Option Own
 cp : Nat → Nat
structure Gh.le (g g' : Gh) : Prop where
 G : ∀ B o v, g.G B o = some v → g'.G B o = some v
 mu : ∀ a B, g.mu a = some B → g'.mu a = some B
 ta : ∀ k t, g.ta k = some t → g'.ta k = some t
 cp : ∀ a B, g.mu a = some B → g'.cp a = g.cp a
theorem Gh.le.refl (g : Gh) : g.le g := ⟨fun _ _ _ h => h, fun _ _ h => h, fun _ _ h => h, fun _ _ _ => rfl⟩
theorem Gh.le.trans {a b c : Gh} (h : a.le b) (k : b.le c) : a.le c :=
 ⟨fun B o v x => k.G B o v (h.G B o v x), fun x B y => k.mu x B (h.mu x B y), fun x B y => k.ta x B (h.ta x B y), fun a B x => (k.cp a B (h.mu a B x)).trans (h.cp a B x)⟩
def Gh.shut (g : Gh) : Gh := ⟨g.G, fun _ => none, fun _ => none, fun _ => none, fun _ => 0⟩
theorem Gh.shut_le (g : Gh) : g.shut.le g := ⟨fun _ _ _ h => h, fun _ _ h => (by cases h), fun _ _ h => (by cases h), fun _ _ h => (by cases h)⟩
theorem Gh.le.shut {g g' : Gh} (h : g.le g') : g.shut.le g'.shut := ⟨h.G, fun _ _ h => (by cases h), fun _ _ h => (by cases h), fun _ _ h => (by cases h)⟩
mutual
def Rep (g : Gh) : V → Value → Prop
 | .undef, _ => True
 | .bool b, v => v = .bool b
 | .int k n, v => v = .int k n
 | .str s, v => v = .string ⟨s.toArray⟩
 | .row nl fl cs n tok, v => ∃ a cap, v = .slice a n cap ∧ n ≤ cap ∧ (fl = true → cap = n) ∧
   (nl = true → a = none ∧ cap = 0) ∧ (a = none → cap = 0) ∧ (a = none → cs = [] ∧ tok = none ∧ (nl = true ∨ fl = false)) ∧
   (∀ A, a = some A → (cs ≠ [] → A.spot = none) ∧ RepC g cs A.block A.off ∧
    ∀ k, tok = some k → ∃ t, g.ta k = some t ∧ (t.sz = 0 ∨ (A.spot = none ∧ t.B = A.block ∧ t.e = A.off + cs.length ∧ cap = n + t.m)))
 | .rptr cs, v => ∃ B o, v = .pointer (some ⟨B, o, none⟩) ∧ RepC g cs B o
 | .ptr a off, v => ∃ B, g.mu a = some B ∧ v = .pointer (some ⟨B, off, none⟩)
 | .nilptr, v => v = .pointer none
 | .slice a off len sz, v => ∃ B cap, g.mu a = some B ∧ v = .slice (some ⟨B, off, none⟩) len cap ∧ len ≤ cap ∧ off + cap * sz ≤ g.cp a
 | .map a, v => ∃ B, g.mu a = some B ∧ v = .map (some B)
 | .nilmap, v => v = .map none
 | .func fn a b, v => ∃ a' b', v = .func fn a' b' ∧ RepL g a a'.toList ∧ RepL g b b'.toList
 | .nilfunc, v => v = .nilFunc
 | .yld a, v => ∃ B, g.mu a = some B ∧ v = .func (.yield B) #[] #[]
 | .iface t x, v => ∃ y, v = .iface t y ∧ Rep g x y
 | .niliface, v => v = .nilIface
 | .agg cs, v => ∃ vs, v = .agg vs ∧ RepL g cs vs.toList
 | .tuple cs, v => ∃ vs, v = .tuple vs ∧ RepL g cs vs.toList
def RepL (g : Gh) : List V → List Value → Prop
 | [], vs => vs = []
 | x :: xs, vs => ∃ y ys, vs = y :: ys ∧ Rep g x y ∧ RepL g xs ys
def RepC (g : Gh) : List V → Nat → Nat → Prop
 | [], _, _ => True
 | x :: xs, B, o => (∃ v, g.G B o = some v ∧ Rep g x v ∧ x.one = true) ∧ RepC g xs B (o + 1)
end
mutual
theorem Rep.mono {g g' : Gh} (h : g.le g') : ∀ (x : V) (v : Value), Rep g x v → Rep g' x v
 | .undef, _, _ => by simp [Rep]
 | .bool b, v, r => by simpa [Rep] using r
 | .int k n, v, r => by simpa [Rep] using r
 | .str s, v, r => by simpa [Rep] using r
 | .row nl fl cs n tok, v, r => by
  simp only [Rep] at r ⊢
  obtain ⟨a, cap, h1, h2, h3, h4, h5, h6, h7⟩ := r
  refine ⟨a, cap, h1, h2, h3, h4, h5, h6, fun A hA => ?_⟩
  obtain ⟨s1, s2, s3⟩ := h7 A hA
  refine ⟨s1, RepC.mono h cs _ _ s2, fun k hk => ?_⟩
  obtain ⟨t, t1, t2⟩ := s3 k hk
  exact ⟨t, h.ta _ _ t1, t2⟩
 | .rptr cs, v, r => by
  simp only [Rep] at r ⊢
  obtain ⟨B, o, h1, h2⟩ := r
  exact ⟨B, o, h1, RepC.mono h cs _ _ h2⟩
 | .ptr a off, v, r => by
  simp only [Rep] at r ⊢
  obtain ⟨B, h1, h2⟩ := r
  exact ⟨B, h.mu _ _ h1, h2⟩
 | .nilptr, v, r => by simpa [Rep] using r
 | .slice a off len sz, v, r => by
  simp only [Rep] at r ⊢
  obtain ⟨B, cap, h1, h2, h3, h4⟩ := r
  exact ⟨B, cap, h.mu _ _ h1, h2, h3, by rw [h.cp _ _ h1]; exact h4⟩
 | .map a, v, r => by
  simp only [Rep] at r ⊢
  obtain ⟨B, h1, h2⟩ := r
  exact ⟨B, h.mu _ _ h1, h2⟩
 | .nilmap, v, r => by simpa [Rep] using r
 | .func fn a b, v, r => by
  simp only [Rep] at r ⊢
  obtain ⟨a', b', h1, h2, h3⟩ := r
  exact ⟨a', b', h1, RepL.mono h a _ h2, RepL.mono h b _ h3⟩
 | .nilfunc, v, r => by simpa [Rep] using r
 | .yld a, v, r => by
  simp only [Rep] at r ⊢
  obtain ⟨B, h1, h2⟩ := r
  exact ⟨B, h.mu _ _ h1, h2⟩
 | .iface t x, v, r => by
  simp only [Rep] at r ⊢
  obtain ⟨y, h1, h2⟩ := r
  exact ⟨y, h1, Rep.mono h x y h2⟩
 | .niliface, v, r => by simpa [Rep] using r
 | .agg cs, v, r => by
  simp only [Rep] at r ⊢
  obtain ⟨vs, h1, h2⟩ := r
  exact ⟨vs, h1, RepL.mono h cs _ h2⟩
 | .tuple cs, v, r => by
  simp only [Rep] at r ⊢
  obtain ⟨vs, h1, h2⟩ := r
  exact ⟨vs, h1, RepL.mono h cs _ h2⟩
theorem RepL.mono {g g' : Gh} (h : g.le g') : ∀ (xs : List V) (vs : List Value), RepL g xs vs → RepL g' xs vs
 | [], vs, r => by simpa [RepL] using r
 | x :: xs, vs, r => by
  simp only [RepL] at r ⊢
  obtain ⟨y, ys, h1, h2, h3⟩ := r
  exact ⟨y, ys, h1, Rep.mono h x y h2, RepL.mono h xs ys h3⟩
theorem RepC.mono {g g' : Gh} (h : g.le g') : ∀ (xs : List V) (B o : Nat), RepC g xs B o → RepC g' xs B o
 | [], _, _, _ => by simp [RepC]
 | x :: xs, B, o, r => by
  simp only [RepC] at r ⊢
  obtain ⟨⟨v, h1, h2, h3⟩, h4⟩ := r
  exact ⟨⟨v, h.G _ _ _ h1, Rep.mono h x v h2, h3⟩, RepC.mono h xs B (o + 1) h4⟩
end
theorem RepL.nil (g : Gh) : RepL g [] [] := by simp [RepL]
theorem RepL.cons {g : Gh} {x : V} {v : Value} {xs : List V} {vs : List Value} (h : Rep g x v) (k : RepL g xs vs) : RepL g (x :: xs) (v :: vs) := by
 simp only [RepL]; exact ⟨v, vs, rfl, h, k⟩
theorem RepL.cons_iff {g : Gh} {x : V} {xs : List V} {v : Value} {vs : List Value} : RepL g (x :: xs) (v :: vs) ↔ Rep g x v ∧ RepL g xs vs := by
 simp only [RepL]
 constructor
 ·rintro ⟨y, ys, h, h1, h2⟩; simp only [List.cons.injEq] at h; obtain ⟨rfl, rfl⟩ := h; exact ⟨h1, h2⟩
 ·rintro ⟨h1, h2⟩; exact ⟨v, vs, rfl, h1, h2⟩
theorem RepL.nil_iff {g : Gh} {vs : List Value} : RepL g [] vs ↔ vs = [] := by simp [RepL]
theorem RepL.iff {g : Gh} : ∀ {xs : List V} {vs : List Value}, RepL g xs vs ↔ xs.length = vs.length ∧ ∀ (i : Nat) (x : V), xs[i]? = some x → ∃ v, vs[i]? = some v ∧ Rep g x v
 | [], vs => by
  rw [RepL.nil_iff]
  constructor
  ·rintro rfl; simp
  ·rintro ⟨h, _⟩; exact List.eq_nil_of_length_eq_zero h.symm
 | x :: xs, [] => by simp [RepL]
 | x :: xs, v :: vs => by
  rw [RepL.cons_iff, RepL.iff]
  constructor
  ·rintro ⟨h1, h2, h3⟩
   refine ⟨by simp [h2], fun i y hy => ?_⟩
   cases i with
   | zero => simp at hy; subst hy; exact ⟨v, by simp, h1⟩
   | succ i => simp at hy; simpa using h3 i y hy
  ·rintro ⟨h1, h2⟩
   refine ⟨?_, by simpa using h1, fun i y hy => ?_⟩
   ·obtain ⟨v', hv, hr⟩ := h2 0 x (by simp); simp at hv; subst hv; exact hr
   ·obtain ⟨v', hv, hr⟩ := h2 (i + 1) y (by simpa using hy); exact ⟨v', by simpa using hv, hr⟩
theorem RepL.length {g : Gh} {xs : List V} {vs : List Value} (h : RepL g xs vs) : xs.length = vs.length := (RepL.iff.1 h).1
theorem RepL.get {g : Gh} {xs : List V} {vs : List Value} (h : RepL g xs vs) {i : Nat} {x : V} (hx : xs[i]? = some x) : ∃ v, vs[i]? = some v ∧ Rep g x v := (RepL.iff.1 h).2 i x hx
theorem RepL.append {g : Gh} : ∀ {xs ys : List V} {vs ws : List Value}, RepL g xs vs → RepL g ys ws → RepL g (xs ++ ys) (vs ++ ws)
 | [], ys, vs, ws, h, k => by rw [RepL.nil_iff] at h; subst h; simpa using k
 | x :: xs, ys, [], ws, h, k => by simp [RepL] at h
 | x :: xs, ys, v :: vs, ws, h, k => by
  rw [RepL.cons_iff] at h
  rw [List.cons_append, List.cons_append, RepL.cons_iff]
  exact ⟨h.1, RepL.append h.2 k⟩
theorem RepL.set {g : Gh} {xs : List V} {vs : List Value} (h : RepL g xs vs) {i : Nat} {x : V} {v : Value} (hx : Rep g x v) : RepL g (xs.set i x) (vs.set i v) := by
 rw [RepL.iff] at h ⊢
 refine ⟨by simp [h.1], fun j y hy => ?_⟩
 rw [List.getElem?_set] at hy ⊢
 split at hy
 ·rename_i e
  subst e
  split at hy
  ·rename_i hl
   simp only [Option.some.injEq] at hy
   subst hy
   rw [if_pos rfl, if_pos (by rw [← h.1]; exact hl)]
   exact ⟨v, rfl, hx⟩
  ·cases hy
 ·rename_i e
  rw [if_neg e]
  exact h.2 j y hy
theorem RepL.replicate {g : Gh} {x : V} {v : Value} (h : Rep g x v) : ∀ n, RepL g (List.replicate n x) (List.replicate n v)
 | 0 => by simp [RepL]
 | n + 1 => by rw [List.replicate_succ, List.replicate_succ, RepL.cons_iff]; exact ⟨h, RepL.replicate h n⟩
theorem RepL.take {g : Gh} {xs : List V} {vs : List Value} (h : RepL g xs vs) (n : Nat) : RepL g (xs.take n) (vs.take n) := by
 rw [RepL.iff] at h ⊢
 refine ⟨by simp [h.1], fun i x hx => ?_⟩
 rw [List.getElem?_take] at hx ⊢
 split at hx
 ·rename_i hl; rw [if_pos hl]; exact h.2 i x hx
 ·cases hx
theorem RepL.drop {g : Gh} {xs : List V} {vs : List Value} (h : RepL g xs vs) (n : Nat) : RepL g (xs.drop n) (vs.drop n) := by
 rw [RepL.iff] at h ⊢
 refine ⟨by simp [h.1], fun i x hx => ?_⟩
 rw [List.getElem?_drop] at hx ⊢
 exact h.2 _ x hx
theorem RepL.map {g : Gh} {α : Type} (f : α → V) (f' : α → Value) (h : ∀ x, Rep g (f x) (f' x)) : ∀ l : List α, RepL g (l.map f) (l.map f')
 | [] => by simp [RepL]
 | x :: l => by rw [List.map_cons, List.map_cons, RepL.cons_iff]; exact ⟨h x, RepL.map f f' h l⟩
theorem RepL.forget {g : Gh} {xs : List V} {vs : List Value} (h : RepL g xs vs) (i : Nat) : RepL g (xs.set i .undef) vs := by
 rw [RepL.iff] at h ⊢
 refine ⟨by simp [h.1], fun j y hy => ?_⟩
 rw [List.getElem?_set] at hy
 split at hy
 ·split at hy
  ·rename_i e hl
   simp only [Option.some.injEq] at hy
   subst hy
   subst e
   exact ⟨vs[i]'(by rw [← h.1]; exact hl), by simp, by simp [Rep]⟩
  ·cases hy
 ·exact h.2 j y hy
theorem RepC.iff {g : Gh} : ∀ {xs : List V} {B o : Nat}, RepC g xs B o ↔ ∀ (i : Nat) (x : V), xs[i]? = some x → ∃ v, g.G B (o + i) = some v ∧ Rep g x v ∧ x.one = true
 | [], B, o => by simp [RepC]
 | x :: xs, B, o => by
  simp only [RepC]
  rw [RepC.iff]
  constructor
  ·rintro ⟨h1, h2⟩ i y hy
   cases i with
   | zero => simp at hy; subst hy; simpa using h1
   | succ i => simp at hy; have := h2 i y hy; rwa [show o + 1 + i = o + (i + 1) by omega] at this
  ·intro h
   refine ⟨by simpa using h 0 x (by simp), fun i y hy => ?_⟩
   have := h (i + 1) y (by simpa using hy)
   rwa [show o + 1 + i = o + (i + 1) by omega]
theorem RepC.drop {g : Gh} {xs : List V} {B o : Nat} (h : RepC g xs B o) (n : Nat) : RepC g (xs.drop n) B (o + n) := by
 rw [RepC.iff] at h ⊢
 intro i x hx
 rw [List.getElem?_drop] at hx
 have := h _ x hx
 rwa [show o + n + i = o + (n + i) by omega]
theorem RepC.take {g : Gh} {xs : List V} {B o : Nat} (h : RepC g xs B o) (n : Nat) : RepC g (xs.take n) B o := by
 rw [RepC.iff] at h ⊢
 intro i x hx
 rw [List.getElem?_take] at hx
 split at hx
 ·exact h _ x hx
 ·cases hx
theorem RepC.append {g : Gh} {xs ys : List V} {B o : Nat} (h : RepC g xs B o) (k : RepC g ys B (o + xs.length)) : RepC g (xs ++ ys) B o := by
 rw [RepC.iff] at h k ⊢
 intro i x hx
 rw [List.getElem?_append] at hx
 split at hx
 ·exact h _ x hx
 ·rename_i hl
  have := k _ x hx
  rwa [show o + xs.length + (i - xs.length) = o + i by omega] at this
theorem one_rep {g : Gh} {x : V} {v : Value} (h : x.one = true) (r : Rep g x v) : v.oneCell' = true := by
 cases x <;> simp [V.one] at h <;> simp only [Rep] at r
 all_goals first
  | (subst r; rfl)
  | (obtain ⟨_, _, rfl, _⟩ := r; rfl)
  | (obtain ⟨_, rfl, _⟩ := r; rfl)
  | (obtain ⟨_, _, rfl⟩ := r; rfl)
  | (obtain ⟨_, _, _, rfl, _⟩ := r; rfl)
theorem one_cells {g : Gh} {x : V} {v : Value} (h : x.one = true) (r : Rep g x v) : v.cells = #[v] := by
 have := one_rep h r
 cases v <;> simp_all [Value.oneCell', Value.cells]
theorem cellsO_rep {g : Gh} {x : V} {v : Value} {cs : List V} (h : x.cellsO = some cs) (r : Rep g x v) :
  RepL g cs v.cells.toList ∧ (∀ c ∈ cs, V.one c = true) := by
 cases x with
 | agg l =>
  simp only [V.cellsO] at h
  split at h
  ·rename_i hall
   simp only [Option.some.injEq] at h
   subst h
   simp only [Rep] at r
   obtain ⟨vs, rfl, r⟩ := r
   exact ⟨by simpa [Value.cells] using r, fun c hc => List.all_eq_true.1 hall c hc⟩
  ·cases h
 | _ =>
  simp only [V.cellsO] at h
  split at h
  ·rename_i h1
   simp only [Option.some.injEq] at h
   subst h
   rw [one_cells h1 r]
   exact ⟨RepL.cons r (RepL.nil g), by simpa using h1⟩
  ·cases h
theorem ofVal_rep (g : Gh) (v : Value) : Rep g (ofVal v) v := by
 unfold ofVal
 split <;> simp only [Rep]
 ·exact ⟨none, 0, rfl, Nat.le_refl _, by simp, by simp, by simp, by simp, by simp⟩
 ·exact ⟨_, rfl, RepL.nil g⟩
theorem ofZero_rep (g : Gh) (v : Value) : RepL g (ofZero v) v.cells.toList := by
 unfold ofZero
 have : ∀ l : List Value, RepL g (l.map ofVal) l := fun l => by
  induction l with
  | nil => simp [RepL]
  | cons x l ih => rw [List.map_cons, RepL.cons_iff]; exact ⟨ofVal_rep g x, ih⟩
 exact this _
theorem one_norm (v : V) : v.norm.one = v.one := by cases v <;> rfl
mutual
theorem norm_rep {g : Gh} : ∀ (v : V) (u : Value), v.closed = true → Rep g v u → Rep g.shut v.norm u
 | .undef, _, h, _ => by simp [V.closed] at h
 | .bool b, v, _, r => by simpa [Rep, V.norm] using r
 | .int k n, v, _, r => by simpa [Rep, V.norm] using r
 | .str s, v, _, r => by simpa [Rep, V.norm] using r
 | .row nl fl cs n tok, v, h, r => by
  simp only [V.closed] at h
  simp only [Rep, V.norm] at r ⊢
  obtain ⟨a, cap, h1, h2, h3, h4, h5, h6, h7⟩ := r
  refine ⟨a, cap, h1, h2, by simp, by simp, h5, fun ha => ⟨by rw [(h6 ha).1]; rfl, trivial, .inr trivial⟩, fun A hA => ?_⟩
  obtain ⟨s1, s2, s3⟩ := h7 A hA
  exact ⟨fun hx => s1 (fun e => by subst e; simp [V.norm.normL] at hx), normC_rep cs _ _ h s2, by simp⟩
 | .rptr cs, v, h, _ => by simp [V.closed] at h
 | .ptr a off, v, h, _ => by simp [V.closed] at h
 | .nilptr, v, _, r => by simpa [Rep, V.norm] using r
 | .slice a off len sz, v, h, _ => by simp [V.closed] at h
 | .map a, v, h, _ => by simp [V.closed] at h
 | .nilmap, v, _, r => by simpa [Rep, V.norm] using r
 | .func fn a b, v, h, r => by
  simp only [V.closed, Bool.and_eq_true] at h
  simp only [Rep, V.norm] at r ⊢
  obtain ⟨a', b', h1, h2, h3⟩ := r
  exact ⟨a', b', h1, normL_rep a _ h.1 h2, normL_rep b _ h.2 h3⟩
 | .nilfunc, v, _, r => by simpa [Rep, V.norm] using r
 | .yld a, v, h, _ => by simp [V.closed] at h
 | .iface t x, v, h, r => by
  simp only [V.closed] at h
  simp only [Rep, V.norm] at r ⊢
  obtain ⟨y, h1, h2⟩ := r
  exact ⟨y, h1, norm_rep x y h h2⟩
 | .niliface, v, _, r => by simpa [Rep, V.norm] using r
 | .agg cs, v, h, r => by
  simp only [V.closed] at h
  simp only [Rep, V.norm] at r ⊢
  obtain ⟨vs, h1, h2⟩ := r
  exact ⟨vs, h1, normL_rep cs _ h h2⟩
 | .tuple cs, v, h, r => by
  simp only [V.closed] at h
  simp only [Rep, V.norm] at r ⊢
  obtain ⟨vs, h1, h2⟩ := r
  exact ⟨vs, h1, normL_rep cs _ h h2⟩
theorem normL_rep {g : Gh} : ∀ (xs : List V) (vs : List Value), V.closed.closedL xs = true → RepL g xs vs → RepL g.shut (V.norm.normL xs) vs
 | [], vs, _, r => by simpa [RepL, V.norm.normL] using r
 | x :: xs, vs, h, r => by
  simp only [V.closed.closedL, Bool.and_eq_true] at h
  simp only [RepL, V.norm.normL] at r ⊢
  obtain ⟨y, ys, h1, h2, h3⟩ := r
  exact ⟨y, ys, h1, norm_rep x y h.1 h2, normL_rep xs ys h.2 h3⟩
theorem normC_rep {g : Gh} : ∀ (xs : List V) (B o : Nat), V.closed.closedL xs = true → RepC g xs B o → RepC g.shut (V.norm.normL xs) B o
 | [], _, _, _, _ => by simp [RepC, V.norm.normL]
 | x :: xs, B, o, h, r => by
  simp only [V.closed.closedL, Bool.and_eq_true] at h
  simp only [RepC, V.norm.normL] at r ⊢
  obtain ⟨⟨v, h1, h2, h3⟩, h4⟩ := r
  exact ⟨⟨v, h1, norm_rep x v h.1 h2, by rw [one_norm]; exact h3⟩, normC_rep xs B (o + 1) h.2 h4⟩
end
theorem closeV_rep {g : Gh} {x : V} {v : Value} (r : Rep g x v) : Rep g (closeV x) v := by
 unfold closeV
 split
 ·rename_i h; exact (norm_rep x v h r).mono g.shut_le
 ·exact r
end Go.Ab
namespace Go.Ab
open Go.RowKit (Below)
def RepE (g : Gh) (es : List (V × V × Nat)) (rs : List MapEntry) : Prop :=
 es.length = rs.length ∧ ∀ (i : Nat) (x : V × V × Nat), es[i]? = some x → ∃ r, rs[i]? = some r ∧ Rep g x.1 r.key ∧ Rep g x.2.1 r.val ∧ r.born = x.2.2
def BlkRel (g : Gh) (w : World) (a B : Nat) : Blk → Prop
 | .cells cs => g.be B = some (.blk a) ∧ (∀ o, g.G B o = none) ∧ ∃ arr e fz, w.heap[B]? = some (.cells arr e fz) ∧ cs.length ≤ arr.size ∧
   (∀ (i : Nat) (x : V), cs[i]? = some x → x.one = true ∧ ∃ v, arr[i]? = some v ∧ Rep g x v) ∧ (∀ i, i < cs.length → ¬ (fz.1 ≤ i ∧ i < fz.2)) ∧
   cs.length ≤ g.cp a ∧ g.cp a ≤ arr.size ∧ ∀ i, i < g.cp a → ¬ (fz.1 ≤ i ∧ i < fz.2)
 | .frozen cs => RepC g cs B 0
 | .dead => True
 | .map es clock => g.be B = some (.blk a) ∧ ∃ rs : List MapEntry, w.heap[B]? = some (.map rs.toArray clock) ∧ RepE g es rs
 | .loop t ps as bo st pend db => g.be B = some (.blk a) ∧ ∃ L : Loop, w.heap[B]? = some (.loop L) ∧ RepL g t L.tmps.toList ∧ L.params.toList = ps ∧
   L.assign = as ∧ L.body = bo ∧ L.state = st ∧ L.pending = pend ∧ g.mu db = some L.defers
 | .dfr op => g.be B = some (.blk a) ∧ w.heap[B]? = some (.deferred (if op then some [] else none))
 | .iter m since seen last => g.be B = some (.blk a) ∧ ∃ M : Option Nat, w.heap[B]? = some (.mapIter M since seen.toArray last) ∧ (match m with
  | some m => ∃ b, g.mu m = some b ∧ M = some b
  | none => M = none)
 | .res => True
 | .bld T e used s => g.be B = some (.blk a) ∧ (∀ o, g.G B o = none) ∧ ∃ v : Value, w.heap[B]? = some (.cells #[if used then .pointer (some ⟨B, 0, none⟩) else .pointer none, v] T (0, 0)) ∧
   w.ownsRow B e 1 v s.length (s.map fun b => Value.int .u8 b.toNat) ∧ T ≠ e ∧ ∀ B2, v.ownBlock = some B2 → g.be B2 = some (.blk a) ∧ ∀ o, g.G B2 o = none
def TokRel (g : Gh) (w : World) (n0 k sz : Nat) (t : TokI) : Prop :=
 t.sz = sz ∧ n0 ≤ t.B ∧ g.be t.B = some (.tok k) ∧ (∀ o, t.e ≤ o → g.G t.B o = none) ∧
 ∃ arr e fz, w.heap[t.B]? = some (.cells arr e fz) ∧ t.e + t.m * sz ≤ arr.size ∧ (∀ i, t.e ≤ i → i < arr.size → ¬ (fz.1 ≤ i ∧ i < fz.2))
def BlkAt (g : Gh) (n0 : Nat) (w : World) (a : Nat) : Blk → Prop
 | .res => g.mu a = none
 | b => ∃ B, g.mu a = some B ∧ n0 ≤ B ∧ BlkRel g w a B b
theorem BlkAt.keep {g g' : Gh} {n0 : Nat} {w w' : World} {a : Nat} {b : Blk} (h : BlkAt g n0 w a b) (hmu : g.mu a = none → g'.mu a = none)
  (k : ∀ B, g.mu a = some B → n0 ≤ B → BlkRel g w a B b → ∃ B', g'.mu a = some B' ∧ n0 ≤ B' ∧ BlkRel g' w' a B' b) : BlkAt g' n0 w' a b := by
 cases b with
 | res => exact hmu h
 | _ => obtain ⟨B, h1, h2, h3⟩ := h; exact k B h1 h2 h3
theorem BlkAt.of {g : Gh} {n0 : Nat} {w : World} {a : Nat} {b : Blk} (hr : b.isRes = false) (h : ∃ B, g.mu a = some B ∧ n0 ≤ B ∧ BlkRel g w a B b) : BlkAt g n0 w a b := by
 cases b with
 | res => cases hr
 | _ => exact h
theorem BlkAt.ex {g : Gh} {n0 : Nat} {w : World} {a : Nat} {b : Blk} (h : BlkAt g n0 w a b) (hr : b.isRes = false) : ∃ B, g.mu a = some B ∧ n0 ≤ B ∧ BlkRel g w a B b := by
 cases b with
 | res => cases hr
 | _ => exact h
structure Inv (g : Gh) (n0 : Nat) (H : Heap) (w : World) : Prop where
 base : n0 ≤ w.heap.size
 agree : ∀ B o v, g.G B o = some v → w.cell? ⟨B, o, none⟩ = some v
 blk : ∀ (a : Nat) (b : Blk), H.bs[a]? = some b → BlkAt g n0 w a b
 new : ∀ a, H.bs.length ≤ a → g.mu a = none
 tok : ∀ (k : Nat) (sz : Nat), H.ts[k]? = some (some sz) → ∃ t, g.ta k = some t ∧ TokRel g w n0 k sz t
 newt : ∀ k, H.ts.length ≤ k → g.ta k = none
 fresh : ∀ B, w.heap.size ≤ B → g.be B = none
structure Good (n0 : Nat) (g : Gh) (w : World) (g' : Gh) (w' : World) : Prop where
 le : g.le g'
 G : ∀ B o, B < n0 → g'.G B o = g.G B o
 below : Below n0 w w'
theorem Good.refl (n0 : Nat) (g : Gh) (w : World) : Good n0 g w g w := ⟨.refl g, fun _ _ _ => rfl, Below.refl _ _⟩
theorem Good.trans {n0 : Nat} {g g1 g2 : Gh} {w w1 w2 : World} (h : Good n0 g w g1 w1) (k : Good n0 g1 w1 g2 w2) : Good n0 g w g2 w2 :=
 ⟨h.le.trans k.le, fun B o hB => (k.G B o hB).trans (h.G B o hB), h.below.trans k.below⟩
theorem Inv.lt {g : Gh} {n0 : Nat} {H : Heap} {w : World} (h : Inv g n0 H w) {B o : Nat} {v : Value} (hg : g.G B o = some v) : B < w.heap.size :=
 World.block_lt_of_cell? w ⟨B, o, none⟩ (h.agree B o v hg)
theorem Inv.noG {g : Gh} {n0 : Nat} {H : Heap} {w : World} (h : Inv g n0 H w) {B : Nat} (hB : w.heap.size ≤ B) (o : Nat) : g.G B o = none := by
 cases hg : g.G B o with
 | none => rfl
 | some v => have := h.lt hg; omega
theorem RepE.mono {g g' : Gh} (h : g.le g') {es : List (V × V × Nat)} {rs : List MapEntry} (r : RepE g es rs) : RepE g' es rs :=
 ⟨r.1, fun i x hx => let ⟨r, h1, h2, h3, h4⟩ := r.2 i x hx; ⟨r, h1, h2.mono h, h3.mono h, h4⟩⟩
theorem BlkRel.keep {g g' : Gh} {w w' : World} {a B : Nat} {b : Blk} (h : BlkRel g w a B b) (hmu : g.mu a = some B) (hle : g.le g') (hw : ∀ B, g.be B = some (.blk a) → w'.heap[B]? = w.heap[B]?)
  (hbe : ∀ B, g.be B = some (.blk a) → g'.be B = some (.blk a)) (hG : ∀ B, g.be B = some (.blk a) → (∀ o, g.G B o = none) → ∀ o, g'.G B o = none) : BlkRel g' w' a B b := by
 replace hw := fun {B} h => hw B h
 replace hbe := fun {B} h => hbe B h
 replace hG := fun {B} h => hG B h
 cases b with
 | bld T e used s =>
  obtain ⟨h1, h2, v, h3, h4, h5, h6⟩ := h
  refine ⟨hbe h1, hG h1 h2, v, (hw h1).trans h3, ⟨h4.1, ?_⟩, h5, fun B2 hB => ⟨hbe (h6 B2 hB).1, hG (h6 B2 hB).1 (h6 B2 hB).2⟩⟩
  rcases h4.2 with k | ⟨B2, cap, cur, k1, k2, k3, k4⟩
  ·exact .inl k
  ·exact .inr ⟨B2, cap, cur, k1, k2, (hw (h6 B2 (by rw [k1]; rfl)).1).trans k3, k4⟩
 | cells cs =>
  obtain ⟨h1, h2, arr, e, fz, h3, h4, h5, h6, h7⟩ := h
  refine ⟨hbe h1, hG h1 h2, arr, e, fz, (hw h1).trans h3, h4, fun i x hx => ?_, h6, by rw [hle.cp _ _ hmu]; exact h7⟩
  obtain ⟨p, v, q, r⟩ := h5 i x hx
  exact ⟨p, v, q, r.mono hle⟩
 | frozen cs => exact RepC.mono hle cs B 0 h
 | dead => trivial
 | map es clock =>
  obtain ⟨h1, rs, h2, h3⟩ := h
  exact ⟨hbe h1, rs, (hw h1).trans h2, h3.mono hle⟩
 | loop t ps as bo st pend db =>
  obtain ⟨h1, L, h2, h3, h4, h5, h6, h7, h8, h9⟩ := h
  exact ⟨hbe h1, L, (hw h1).trans h2, RepL.mono hle _ _ h3, h4, h5, h6, h7, h8, hle.mu _ _ h9⟩
 | dfr op =>
  obtain ⟨h1, h2⟩ := h
  exact ⟨hbe h1, (hw h1).trans h2⟩
 | iter m since seen last =>
  obtain ⟨h1, M, h2, h3⟩ := h
  refine ⟨hbe h1, M, (hw h1).trans h2, ?_⟩
  cases m with
  | none => exact h3
  | some m => obtain ⟨b, e1, e2⟩ := h3; exact ⟨b, hle.mu _ _ e1, e2⟩
 | res => trivial
theorem TokRel.keep {g g' : Gh} {w w' : World} {n0 k sz : Nat} {t : TokI} (h : TokRel g w n0 k sz t) (hw : w'.heap[t.B]? = w.heap[t.B]?)
  (hbe : g'.be t.B = some (.tok k)) (hG : ∀ o, g.G t.B o = none → g'.G t.B o = none) : TokRel g' w' n0 k sz t := by
 obtain ⟨h1, h2, h3, h4, arr, e, fz, h5, h6, h7⟩ := h
 exact ⟨h1, h2, hbe, fun o ho => hG o (h4 o ho), arr, e, fz, hw.trans h5, h6, h7⟩
theorem Inv.drew {g : Gh} {n0 : Nat} {H : Heap} {w : World} (h : Inv g n0 H w) : Inv g n0 H w.drew :=
 ⟨h.base, h.agree, fun a b hb => (h.blk a b hb).keep id (fun B h1 h2 h3 => ⟨B, h1, h2, h3.keep h1 (.refl g) (fun _ _ => rfl) (fun _ => id) (fun _ _ x => x)⟩), h.new,
  fun k sz hk => let ⟨t, h1, h2⟩ := h.tok k sz hk; ⟨t, h1, h2.keep rfl h2.2.2.1 (fun _ x => x)⟩, h.newt, h.fresh⟩
theorem Good.drew (n0 : Nat) (g : Gh) (w : World) : Good n0 g w g w.drew := ⟨.refl g, fun _ _ _ => rfl, (Below.refl _ _).drew⟩
def Gh.addB (g : Gh) (a B c : Nat) : Gh :=
 { g with mu := fun x => if x = a then some B else g.mu x, be := fun x => if x = B then some (.blk a) else g.be x, cp := fun x => if x = a then c else g.cp x }
theorem Gh.addB_le {g : Gh} {a B c : Nat} (h : g.mu a = none) : g.le (g.addB a B c) :=
 ⟨fun _ _ _ x => x, fun x y hx => by simp only [Gh.addB]; split <;> simp_all, fun _ _ x => x, fun x y hx => by simp only [Gh.addB]; split <;> simp_all⟩
theorem Inv.newBlk {g : Gh} {n0 : Nat} {H : Heap} {w : World} (h : Inv g n0 H w) (o : Obj) (b : Blk) (c : Nat)
  (hb : BlkRel (g.addB H.bs.length w.heap.size c) (w.alloc o) H.bs.length w.heap.size b) (hres : b.isRes = false := by rfl) :
  Inv (g.addB H.bs.length w.heap.size c) n0 (newB H b) (w.alloc o) ∧ Good n0 g w (g.addB H.bs.length w.heap.size c) (w.alloc o) ∧
   (g.addB H.bs.length w.heap.size c).mu H.bs.length = some w.heap.size := by
 have hle : g.le (g.addB H.bs.length w.heap.size c) := Gh.addB_le (h.new _ (Nat.le_refl _))
 refine ⟨⟨?_, ?_, ?_, ?_, ?_, ?_, ?_⟩, ⟨hle, fun _ _ _ => rfl, (Below.refl _ _).alloc h.base o⟩, by simp [Gh.addB]⟩
 ·have := h.base; simp; omega
 ·intro B o' v hg
  have hg' : g.G B o' = some v := hg
  rw [World.cell?_alloc_lt w o ⟨B, o', none⟩ (h.lt hg')]
  exact h.agree B o' v hg'
 ·intro a b' hab
  simp only [newB] at hab
  rw [List.getElem?_append] at hab
  split at hab
  ·rename_i hl
   refine (h.blk a b' hab).keep (fun e => by simp [Gh.addB, show a ≠ H.bs.length by omega, e]) (fun B h1 h2 h3 => ?_)
   have hne : a ≠ H.bs.length := by omega
   refine ⟨B, by simp [Gh.addB, hne, h1], h2, ?_⟩
   have hB : ∀ {B}, g.be B = some (.blk a) → B < w.heap.size := fun {B} hx => by
    by_cases hB : B < w.heap.size
    ·exact hB
    ·have := h.fresh B (by omega); rw [hx] at this; cases this
   refine h3.keep h1 hle (fun B hx => Below.heap_alloc w o B (hB hx)) (fun B hx => ?_) (fun _ _ hx => hx)
   have : B ≠ w.heap.size := by have := hB hx; omega
   simp [Gh.addB, this, hx]
  ·rename_i hl
   have : a = H.bs.length := by
    have := List.getElem?_eq_some_iff.1 hab
    obtain ⟨hlt, _⟩ := this
    simp at hlt; omega
   subst this
   simp at hab
   subst hab
   exact .of hres ⟨w.heap.size, by simp [Gh.addB], h.base, hb⟩
 ·intro a ha
  simp [newB] at ha
  have hne : a ≠ H.bs.length := by omega
  simp [Gh.addB, hne, h.new a (by omega)]
 ·intro k sz hk
  obtain ⟨t, h1, h2⟩ := h.tok k sz hk
  have hB : t.B < w.heap.size := by
   by_cases hB : t.B < w.heap.size
   ·exact hB
   ·have := h.fresh t.B (by omega); rw [h2.2.2.1] at this; cases this
  refine ⟨t, h1, h2.keep (Below.heap_alloc w o _ hB) ?_ (fun _ x => x)⟩
  have : t.B ≠ w.heap.size := by omega
  simp [Gh.addB, this, h2.2.2.1]
 ·exact h.newt
 ·intro B hB
  simp at hB
  have : B ≠ w.heap.size := by omega
  simp [Gh.addB, this, h.fresh B (by omega)]
theorem Inv.own_lt {g : Gh} {n0 : Nat} {H : Heap} {w : World} (h : Inv g n0 H w) {B : Nat} {x : Own} (hx : g.be B = some x) : B < w.heap.size := by
 by_cases hB : B < w.heap.size
 ·exact hB
 ·have := h.fresh B (by omega); rw [hx] at this; cases this
structure But (B : Nat) (w w' : World) : Prop where
 os : w'.os = w.os
 tape : w'.tape = w.tape
 output : w'.output = w.output
 size : w'.heap.size = w.heap.size
 block : ∀ k, k ≠ B → w'.heap[k]? = w.heap[k]?
theorem But.refl (B : Nat) (w : World) : But B w w := ⟨rfl, rfl, rfl, rfl, fun _ _ => rfl⟩
theorem But.trans {B : Nat} {a b c : World} (h : But B a b) (k : But B b c) : But B a c :=
 ⟨k.os.trans h.os, k.tape.trans h.tape, k.output.trans h.output, k.size.trans h.size, fun i hi => (k.block i hi).trans (h.block i hi)⟩
theorem But.setCell (w : World) (a : Addr) (v : Value) : But a.block w (w.setCell a v) :=
 ⟨rfl, rfl, rfl, by simp, fun k hk => Below.heap_setCell w a v k hk⟩
theorem But.putObj (w : World) (r : Nat) (o : Obj) : But r w (w.putObj r o) :=
 ⟨rfl, rfl, rfl, by simp, fun k hk => World.putObj_heap_other hk⟩
theorem But.below {B n0 : Nat} {w w' : World} (h : But B w w') (hB : n0 ≤ B) : Below n0 w w' :=
 ⟨h.os, h.tape, h.output, by rw [h.size]; exact Nat.le_refl _, fun k hk => h.block k (by omega)⟩
theorem But.cell {B : Nat} {w w' : World} (h : But B w w') {a : Addr} (ha : a.block ≠ B) : w'.cell? a = w.cell? a := World.cell?_of_block (h.block _ ha)
theorem Inv.updBlk {g : Gh} {n0 : Nat} {H : Heap} {w w' : World} (h : Inv g n0 H w) {a B : Nat} (b' : Blk) (ha : a < H.bs.length) (hmu : g.mu a = some B) (hn : n0 ≤ B)
  (hbe : g.be B = some (.blk a)) (hG : ∀ o, g.G B o = none) (hw : But B w w') (hb : BlkRel g w' a B b') (hres : b'.isRes = false := by rfl) :
  Inv g n0 { H with bs := H.bs.set a b' } w' ∧ Good n0 g w g w' := by
 refine ⟨⟨?_, ?_, ?_, ?_, ?_, ?_, ?_⟩, ⟨.refl g, fun _ _ _ => rfl, hw.below hn⟩⟩
 ·rw [hw.size]; exact h.base
 ·intro B' o v hg
  rw [hw.cell (a := ⟨B', o, none⟩) (by rintro rfl; simp [hG] at hg)]
  exact h.agree B' o v hg
 ·intro x y hxy
  simp only at hxy
  rw [List.getElem?_set] at hxy
  split at hxy
  ·rename_i e
   subst e
   simp only [Option.some.injEq] at hxy
   subst hxy
   exact .of hres ⟨B, hmu, hn, hb⟩
  ·rename_i e
   refine (h.blk x y hxy).keep id (fun B' h1 h2 h3 => ?_)
   refine ⟨B', h1, h2, h3.keep h1 (.refl g) (fun B' hx => hw.block B' ?_) (fun _ => id) (fun _ _ z => z)⟩
   rintro rfl
   rw [hbe] at hx
   simp only [Option.some.injEq, Own.blk.injEq] at hx
   exact e hx
 ·intro x hx; exact h.new x (by simpa using hx)
 ·intro k sz hk
  obtain ⟨t, h1, h2⟩ := h.tok k sz hk
  refine ⟨t, h1, h2.keep (hw.block _ ?_) h2.2.2.1 (fun _ x => x)⟩
  intro e
  have h3 := h2.2.2.1
  rw [e, hbe] at h3
  cases h3
 ·exact h.newt
 ·intro x hx; exact h.fresh x (by rw [hw.size] at hx; exact hx)
theorem Inv.killBlk {g : Gh} {n0 : Nat} {H : Heap} {w : World} (h : Inv g n0 H w) (a : Nat) (ha : ∃ B, g.mu a = some B ∧ n0 ≤ B) : Inv g n0 { H with bs := H.bs.set a .dead } w := by
 refine ⟨h.base, h.agree, fun x y hxy => ?_, fun x hx => h.new x (by simpa using hx), h.tok, h.newt, h.fresh⟩
 simp only at hxy
 rw [List.getElem?_set] at hxy
 split at hxy
 ·rename_i e
  subst e
  split at hxy
  ·rename_i hl
   simp only [Option.some.injEq] at hxy
   subst hxy
   obtain ⟨B, h1, h2⟩ := ha
   exact ⟨B, h1, h2, trivial⟩
  ·cases hxy
 ·exact h.blk x y hxy
theorem Inv.moveBlk {g : Gh} {n0 : Nat} {H : Heap} {w w' : World} (h : Inv g n0 H w) {a B : Nat} (b' : Blk) (ha : a < H.bs.length) (hmu : g.mu a = some B) (hn : n0 ≤ B)
  (hbe : g.be B = some (.blk a)) (hG : ∀ o, g.G B o = none) (hw : But B w w') (hb : BlkRel (g.addB H.bs.length B (g.cp a)) w' H.bs.length B b') (hres : b'.isRes = false := by rfl) :
  Inv (g.addB H.bs.length B (g.cp a)) n0 (newB { H with bs := H.bs.set a .dead } b') w' ∧ Good n0 g w (g.addB H.bs.length B (g.cp a)) w' := by
 have hle : g.le (g.addB H.bs.length B (g.cp a)) := Gh.addB_le (h.new _ (Nat.le_refl _))
 refine ⟨⟨?_, ?_, ?_, ?_, ?_, ?_, ?_⟩, ⟨hle, fun _ _ _ => rfl, hw.below hn⟩⟩
 ·rw [hw.size]; exact h.base
 ·intro B' o v hg
  have hg' : g.G B' o = some v := hg
  rw [hw.cell (a := ⟨B', o, none⟩) (by rintro rfl; simp [hG] at hg')]
  exact h.agree B' o v hg'
 ·intro x y hxy
  simp only [newB] at hxy
  rw [List.getElem?_append, List.length_set] at hxy
  split at hxy
  ·rename_i hl
   have hne : x ≠ H.bs.length := by omega
   rw [List.getElem?_set] at hxy
   split at hxy
   ·rename_i e
    subst e
    simp only [Option.some.injEq, ha, if_true] at hxy
    subst hxy
    exact ⟨B, hle.mu _ _ hmu, hn, trivial⟩
   ·rename_i e
    refine (h.blk x y hxy).keep (fun e => by simp [Gh.addB, hne, e]) (fun B' h1 h2 h3 => ?_)
    have hB : ∀ {B'}, g.be B' = some (.blk x) → B' ≠ B := by
     intro B' hx e'
     rw [e', hbe] at hx
     simp only [Option.some.injEq, Own.blk.injEq] at hx
     exact e hx
    refine ⟨B', hle.mu _ _ h1, h2, h3.keep h1 hle (fun B' hx => hw.block B' (hB hx)) (fun B' hx => ?_) (fun _ _ z => z)⟩
    simp [Gh.addB, hB hx, hx]
  ·rename_i hl
   have : x = H.bs.length := by
    have := (List.getElem?_eq_some_iff.1 hxy).1
    simp at this; omega
   subst this
   simp at hxy
   subst hxy
   exact .of hres ⟨B, by simp [Gh.addB], hn, hb⟩
 ·intro x hx
  simp [newB] at hx
  have hne : x ≠ H.bs.length := by omega
  simp [Gh.addB, hne, h.new x (by omega)]
 ·intro k sz hk
  obtain ⟨t, h1, h2⟩ := h.tok k sz hk
  have hne : t.B ≠ B := by
   intro e
   have h3 := h2.2.2.1
   rw [e, hbe] at h3
   cases h3
  refine ⟨t, h1, h2.keep (hw.block _ hne) ?_ (fun _ x => x)⟩
  simp [Gh.addB, hne, h2.2.2.1]
 ·exact h.newt
 ·intro x hx
  rw [hw.size] at hx
  have hne : x ≠ B := by
   rintro rfl
   have := h.fresh x hx
   rw [hbe] at this
   cases this
  simp [Gh.addB, hne, h.fresh x hx]
def Gh.addG (g : Gh) (B : Nat) (f : Nat → Option Value) : Gh := { g with G := fun B' o => if B' = B then f o else g.G B' o }
theorem Gh.addG_le {g : Gh} {B : Nat} {f : Nat → Option Value} (h : ∀ o v, g.G B o = some v → f o = some v) : g.le (g.addG B f) :=
 ⟨fun B' o v hv => by
  by_cases e : B' = B
  ·subst e; simp [Gh.addG, h o v hv]
  ·simp [Gh.addG, e, hv], fun _ _ h => h, fun _ _ h => h, fun _ _ _ => rfl⟩
theorem cell_of_heap {w : World} {B o : Nat} {arr : Array Value} {e : TypeId} {fz : Nat × Nat} (h : w.heap[B]? = some (.cells arr e fz)) : w.cell? ⟨B, o, none⟩ = arr[o]? := by
 simp [World.cell?, h]
theorem Inv.freeze {g : Gh} {n0 : Nat} {H : Heap} {w : World} (h : Inv g n0 H w) {a : Nat} {cs : List V} (ha : H.bs[a]? = some (.cells cs)) :
  ∃ g', Inv g' n0 { H with bs := H.bs.set a (.frozen cs) } w ∧ Good n0 g w g' w := by
 obtain ⟨B, hmu, hn, hbe, hG, arr, e, fz, hh, hl, hc, hf, _⟩ := h.blk a _ ha
 have hlt : a < H.bs.length := (List.getElem?_eq_some_iff.1 ha).1
 have hle : g.le (g.addG B fun o => if o < cs.length then arr[o]? else none) := Gh.addG_le (fun o v hv => by rw [hG] at hv; cases hv)
 refine ⟨g.addG B (fun o => if o < cs.length then arr[o]? else none), ⟨h.base, ?_, ?_, fun x hx => h.new x (by simpa using hx), ?_, h.newt, h.fresh⟩, ⟨hle, fun B' o hB => ?_, Below.refl _ _⟩⟩
 ·intro B' o v hv
  simp only [Gh.addG] at hv
  split at hv
  ·rename_i e'
   subst e'
   split at hv
   ·rw [cell_of_heap hh]; exact hv
   ·cases hv
  ·exact h.agree B' o v hv
 ·intro x y hxy
  simp only at hxy
  rw [List.getElem?_set] at hxy
  split at hxy
  ·rename_i e'
   subst e'
   simp only [Option.some.injEq] at hxy
   subst hxy
   refine ⟨B, hmu, hn, ?_⟩
   show RepC _ cs B 0
   rw [RepC.iff]
   intro i x hx
   obtain ⟨h1, v, h2, h3⟩ := hc i x hx
   have hi : i < cs.length := (List.getElem?_eq_some_iff.1 hx).1
   exact ⟨v, by simp [Gh.addG, hi, h2], h3.mono hle, h1⟩
  ·rename_i e'
   refine (h.blk x y hxy).keep id (fun B' h1 h2 h3 => ?_)
   refine ⟨B', h1, h2, h3.keep h1 hle (fun _ _ => rfl) (fun _ => id) (fun B' hx z o => ?_)⟩
   have hne : B' ≠ B := by
    rintro rfl
    rw [hbe] at hx
    simp only [Option.some.injEq, Own.blk.injEq] at hx
    exact e' hx
   simp [Gh.addG, hne, z o]
 ·intro k sz hk
  obtain ⟨t, h1, h2⟩ := h.tok k sz hk
  refine ⟨t, h1, h2.keep rfl h2.2.2.1 (fun o hx => ?_)⟩
  have hne : t.B ≠ B := by
   intro e
   have h3 := h2.2.2.1
   rw [e, hbe] at h3
   cases h3
  simp [Gh.addG, hne, hx]
 ·have hne : B' ≠ B := by omega
  simp [Gh.addG, hne]
theorem Inv.newRow {g : Gh} {n0 : Nat} {H : Heap} {w : World} (h : Inv g n0 H w) (arr : Array Value) (e : TypeId) (cs : List V) (hr : RepL g cs (arr.toList.take cs.length)) (hone : ∀ c ∈ cs, V.one c = true) :
  ∃ g', Inv g' n0 H (w.alloc (.cells arr e)) ∧ Good n0 g w g' (w.alloc (.cells arr e)) ∧ RepC g' cs w.heap.size 0 ∧ g'.be = g.be ∧ ∀ o, cs.length ≤ o → g'.G w.heap.size o = none := by
 have hle : g.le (g.addG w.heap.size fun o => if o < cs.length then arr[o]? else none) := Gh.addG_le (fun o v hv => by rw [h.noG (Nat.le_refl _)] at hv; cases hv)
 refine ⟨g.addG w.heap.size (fun o => if o < cs.length then arr[o]? else none), ⟨by have := h.base; simp; omega, ?_, ?_, h.new, ?_, h.newt, ?_⟩, ⟨hle, fun B o hB => ?_, (Below.refl _ _).alloc h.base _⟩, ?_, rfl, fun o ho => by simp [Gh.addG]; omega⟩
 ·intro B o v hv
  simp only [Gh.addG] at hv
  split at hv
  ·rename_i e'
   subst e'
   split at hv
   ·rw [World.cell?_alloc_new]; exact hv
   ·cases hv
  ·rw [World.cell?_alloc_lt w _ ⟨B, o, none⟩ (h.lt hv)]
   exact h.agree B o v hv
 ·intro a b hab
  refine (h.blk a b hab).keep id (fun B h1 h2 h3 => ?_)
  refine ⟨B, h1, h2, h3.keep h1 hle (fun B hx => Below.heap_alloc w _ B (h.own_lt hx)) (fun _ => id) (fun B hx z o => ?_)⟩
  have hne : B ≠ w.heap.size := by have := h.own_lt hx; omega
  simp [Gh.addG, hne, z o]
 ·intro k sz hk
  obtain ⟨t, h1, h2⟩ := h.tok k sz hk
  have hB := h.own_lt h2.2.2.1
  refine ⟨t, h1, h2.keep (Below.heap_alloc w _ _ hB) h2.2.2.1 (fun o hx => ?_)⟩
  have hne : t.B ≠ w.heap.size := by omega
  simp [Gh.addG, hne, hx]
 ·intro B hB
  exact h.fresh B (by simp at hB; omega)
 ·have hne : B ≠ w.heap.size := by have := h.base; omega
  simp [Gh.addG, hne]
 ·rw [RepC.iff]
  intro i x hx
  have hi : i < cs.length := (List.getElem?_eq_some_iff.1 hx).1
  obtain ⟨v, hv, hrv⟩ := hr.get hx
  rw [List.getElem?_take, if_pos hi] at hv
  exact ⟨v, by simp [Gh.addG, hi]; simpa using hv, hrv.mono hle, hone x (List.mem_of_getElem? hx)⟩
def Gh.addT (g : Gh) (k : Nat) (t : TokI) : Gh := { g with ta := fun x => if x = k then some t else g.ta x, be := fun x => if x = t.B then some (.tok k) else g.be x }
theorem Gh.addT_le {g : Gh} {k : Nat} {t : TokI} (h : g.ta k = none) : g.le (g.addT k t) :=
 ⟨fun _ _ _ x => x, fun _ _ x => x, fun x y hx => by simp only [Gh.addT]; split <;> simp_all, fun _ _ _ => rfl⟩
theorem Inv.killTok {g : Gh} {n0 : Nat} {H : Heap} {w : World} (h : Inv g n0 H w) (k : Nat) : Inv g n0 { H with ts := H.ts.set k none } w :=
 ⟨h.base, h.agree, h.blk, h.new, fun j sz hj => by
  simp only at hj
  rw [List.getElem?_set] at hj
  split at hj
  ·split at hj <;> simp at hj
  ·exact h.tok j sz hj, fun x hx => h.newt x (by simpa using hx), h.fresh⟩
def dropTok (ts : List (Option Nat)) : Option Nat → List (Option Nat)
 | some k => ts.set k none
 | none => ts
def ownTok : Option Nat → Option Own
 | some k => some (.tok k)
 | none => none
theorem Inv.newTok {g : Gh} {n0 : Nat} {H : Heap} {w : World} (h : Inv g n0 H w) (t : TokI) (old : Option Nat)
  (hown : g.be t.B = ownTok old)
  (ht : TokRel (g.addT H.ts.length t) w n0 H.ts.length t.sz t) :
  Inv (g.addT H.ts.length t) n0 { H with ts := dropTok H.ts old ++ [some t.sz] } w ∧ Good n0 g w (g.addT H.ts.length t) w := by
 have hle : g.le (g.addT H.ts.length t) := Gh.addT_le (h.newt _ (Nat.le_refl _))
 have hlen : (dropTok H.ts old).length = H.ts.length := by cases old <;> simp [dropTok]
 have key : ∀ (k : Nat) (sz : Nat), (dropTok H.ts old)[k]? = some (some sz) → H.ts[k]? = some (some sz) ∧ old ≠ some k := by
  intro k sz hk
  cases old with
  | none => exact ⟨hk, by simp⟩
  | some k' =>
   simp only [dropTok] at hk
   rw [List.getElem?_set] at hk
   split at hk
   ·split at hk <;> simp at hk
   ·rename_i hne; exact ⟨hk, by simpa using hne⟩
 have hown' : ∀ x, g.be t.B = some x → ∃ k, old = some k ∧ x = .tok k := by
  intro x hx
  cases old with
  | none => simp [hx, ownTok] at hown
  | some k => simp only [hx, ownTok, Option.some.injEq] at hown; exact ⟨k, rfl, hown⟩
 generalize dropTok H.ts old = ts0 at hlen key ⊢
 refine ⟨⟨h.base, h.agree, ?_, h.new, ?_, ?_, ?_⟩, ⟨hle, fun _ _ _ => rfl, Below.refl _ _⟩⟩
 ·intro a b hab
  refine (h.blk a b hab).keep id (fun B h1 h2 h3 => ?_)
  refine ⟨B, h1, h2, h3.keep h1 hle (fun _ _ => rfl) (fun B hx => ?_) (fun _ _ x => x)⟩
  have hne : B ≠ t.B := by
   rintro rfl
   obtain ⟨k, _, e⟩ := hown' _ hx
   cases e
  simp [Gh.addT, hne, hx]
 ·intro k sz hk
  simp only at hk
  rw [List.getElem?_append] at hk
  split at hk
  ·obtain ⟨hk1, hk2⟩ := key k sz hk
   obtain ⟨t', h1, h2⟩ := h.tok k sz hk1
   have hne : t'.B ≠ t.B := by
    intro e
    have h3 := h2.2.2.1
    rw [e] at h3
    obtain ⟨k', e1, e2⟩ := hown' _ h3
    cases e2
    exact hk2 e1
   refine ⟨t', hle.ta _ _ h1, h2.keep rfl ?_ (fun _ x => x)⟩
   simp [Gh.addT, hne, h2.2.2.1]
  ·rename_i hl
   rw [hlen] at hl hk
   have : k = H.ts.length := by
    have := (List.getElem?_eq_some_iff.1 hk).1
    simp at this; omega
   subst this
   simp at hk
   subst hk
   exact ⟨t, by simp [Gh.addT], ht⟩
 ·intro k hk
  simp only [List.length_append, hlen, List.length_cons, List.length_nil] at hk
  have hne : k ≠ H.ts.length := by omega
  simp [Gh.addT, hne, h.newt k (by omega)]
 ·intro B hB
  have hne : B ≠ t.B := by
   intro e
   have h1 := ht.2.2.2.2
   obtain ⟨arr, e', fz, h2, _⟩ := h1
   have := (Array.getElem?_eq_some_iff.1 h2).1
   omega
  simp [Gh.addT, hne, h.fresh B hB]
theorem Inv.growRow {g : Gh} {n0 : Nat} {H : Heap} {w w' : World} (h : Inv g n0 H w) {k sz : Nat} {t : TokI} (hk : H.ts[k]? = some (some sz)) (ht : g.ta k = some t)
  (hrel : TokRel g w n0 k sz t) (arr : Array Value) (e : TypeId) (fz : Nat × Nat) (hw : But t.B w w') (hh : w'.heap[t.B]? = some (.cells arr e fz)) (n : Nat)
  (hold : ∀ o, o < t.e → arr[o]? = (w.cell? ⟨t.B, o, none⟩)) :
  Inv (g.addG t.B fun o => if o < t.e then g.G t.B o else if o < t.e + n then arr[o]? else none) n0 { H with ts := H.ts.set k none } w' ∧
   Good n0 g w (g.addG t.B fun o => if o < t.e then g.G t.B o else if o < t.e + n then arr[o]? else none) w' := by
 obtain ⟨hsz, hn, hbe, hG, _⟩ := hrel
 have hle : g.le (g.addG t.B fun o => if o < t.e then g.G t.B o else if o < t.e + n then arr[o]? else none) := Gh.addG_le (fun o v hv => by
  by_cases ho : o < t.e
  ·simp [ho, hv]
  ·rw [hG o (by omega)] at hv; cases hv)
 refine ⟨⟨by rw [hw.size]; exact h.base, ?_, ?_, h.new, ?_, fun x hx => h.newt x (by simpa using hx), fun B hB => h.fresh B (by rw [hw.size] at hB; exact hB)⟩, ⟨hle, fun B o hB => ?_, hw.below hn⟩⟩
 ·intro B o v hv
  simp only [Gh.addG] at hv
  split at hv
  ·rename_i e'
   subst e'
   rw [cell_of_heap hh]
   split at hv
   ·rename_i ho; rw [hold o ho]; exact h.agree _ _ _ hv
   ·split at hv
    ·exact hv
    ·cases hv
  ·rename_i hne
   rw [hw.cell (a := ⟨B, o, none⟩) hne]
   exact h.agree B o v hv
 ·intro a b hab
  refine (h.blk a b hab).keep id (fun B h1 h2 h3 => ?_)
  have hne : ∀ {B}, g.be B = some (.blk a) → B ≠ t.B := by
   intro B hx e'
   rw [e', hbe] at hx
   cases hx
  refine ⟨B, h1, h2, h3.keep h1 hle (fun B hx => hw.block B (hne hx)) (fun _ => id) (fun B hx z o => ?_)⟩
  simp [Gh.addG, hne hx, z o]
 ·intro k' sz' hk'
  simp only at hk'
  rw [List.getElem?_set] at hk'
  split at hk'
  ·split at hk' <;> simp at hk'
  ·rename_i hkk
   obtain ⟨t', h1, h2⟩ := h.tok k' sz' hk'
   have hne : t'.B ≠ t.B := by
    intro e'
    have h3 := h2.2.2.1
    rw [e', hbe] at h3
    simp only [Option.some.injEq, Own.tok.injEq] at h3
    exact hkk h3
   refine ⟨t', h1, h2.keep (hw.block _ hne) h2.2.2.1 (fun o hx => ?_)⟩
   simp [Gh.addG, hne, hx]
 ·have hne : B ≠ t.B := by omega
  simp [Gh.addG, hne]
end Go.Ab
namespace Go.Ab
open Go.RowKit (Below)
variable {P : Program} {g : Gh} {n0 : Nat} {H : Heap} {w : World}
theorem run_isAggO {t : TypeId} {b : Bool} (h : isAggO P t = some b) (w : World) : (isAgg t).run P w = .ok b w := by
 unfold isAggO at h
 cases hu : P.underlying t with
 | none => simp [hu] at h
 | some d =>
  simp only [isAgg, Sem.run_bind, run_underlying hu, Result.andThen_ok]
  rw [hu] at h
  cases d <;> simp_all
theorem info_of_szO {t : TypeId} {n : Nat} (h : szO P t = some n) : ∃ i, P.info? t = some i ∧ i.size = n := by
 unfold szO at h
 cases hi : P.info? t with
 | none => simp [hi] at h
 | some i => simp [hi] at h; exact ⟨i, rfl, h⟩
theorem run_typeInfo {t : TypeId} {i : TypeInfo} (h : P.info? t = some i) (w : World) : (typeInfo t).run P w = .ok i w := by
 simp [typeInfo, h]
theorem run_szO {t : TypeId} {n : Nat} (h : szO P t = some n) (w : World) : (sizeOf t).run P w = .ok n w := by
 obtain ⟨i, h1, h2⟩ := info_of_szO h
 simp [sizeOf, run_typeInfo h1, h2]
theorem add_none (B o j : Nat) : (⟨B, o, none⟩ : Addr).add j = ⟨B, o + j, none⟩ := Addr.add_lit B o j
theorem readP_rep {p : V} {n : Nat} {cs : List V} (h : readP H p n = some cs) (hI : Inv g n0 H w) {v : Value} (r : Rep g p v) :
  ∃ B o vs, v = .pointer (some ⟨B, o, none⟩) ∧ RepL g cs vs ∧ cs.length = n ∧ (∀ c ∈ cs, V.one c = true) ∧ ∀ (j : Nat) (u : Value), vs[j]? = some u → w.cell? ⟨B, o + j, none⟩ = some u := by
 cases p with
 | rptr l =>
  simp only [readP] at h
  split at h
  ·rename_i hl
   simp only [Option.some.injEq] at h
   subst h
   simp only [Rep] at r
   obtain ⟨B, o, rfl, hc⟩ := r
   have hc := hc.take n
   refine ⟨B, o, (l.take n).mapIdx fun i _ => (g.G B (o + i)).getD .nilIface, rfl, ?_, by simp; omega, ?_, ?_⟩
   ·rw [RepL.iff]
    refine ⟨by simp, fun i x hx => ?_⟩
    obtain ⟨v, hv, hr, _⟩ := RepC.iff.1 hc i x hx
    refine ⟨v, ?_, hr⟩
    rw [List.getElem?_mapIdx, hx]
    simp [hv]
   ·intro c hcm
    obtain ⟨i, hi⟩ := List.mem_iff_getElem?.1 hcm
    obtain ⟨_, _, _, h1⟩ := RepC.iff.1 hc i c hi
    exact h1
   ·intro j u hu
    rw [List.getElem?_mapIdx] at hu
    cases hx : (l.take n)[j]? with
    | none => simp [hx] at hu
    | some x =>
     obtain ⟨v, hv, _⟩ := RepC.iff.1 hc j x hx
     simp [hx, hv] at hu
     subst hu
     exact hI.agree _ _ _ hv
  ·cases h
 | ptr a off =>
  simp only [Rep] at r
  obtain ⟨B, hmu, rfl⟩ := r
  simp only [readP] at h
  cases hb : H.bs[a]? with
  | none => simp [hb] at h
  | some b =>
   have hres : b.isRes = false := by cases b <;> first | rfl | (simp [hb] at h)
   obtain ⟨B', hmu', hn, hrel⟩ := (hI.blk a b hb).ex hres
   rw [hmu] at hmu'
   simp only [Option.some.injEq] at hmu'
   subst hmu'
   cases b with
   | dead => simp [hb] at h
   | cells l =>
    simp only [hb] at h
    split at h
    ·rename_i hl
     simp only [Option.some.injEq] at h
     obtain ⟨hbe, hG, arr, e, fz, hh, hsz, hc, hf⟩ := hrel
     refine ⟨B, off, (arr.toList.drop off).take n, rfl, ?_, by subst h; simp; omega, ?_, ?_⟩
     ·rw [RepL.iff]
      refine ⟨by subst h; simp; omega, fun i x hx => ?_⟩
      subst h
      rw [List.getElem?_take] at hx ⊢
      split at hx
      ·rename_i hi
       rw [if_pos hi]
       rw [List.getElem?_drop] at hx ⊢
       obtain ⟨_, v, hv, hr⟩ := hc _ x hx
       exact ⟨v, by simpa using hv, hr⟩
      ·cases hx
     ·intro c hcm
      subst h
      obtain ⟨i, hi⟩ := List.mem_iff_getElem?.1 (List.mem_of_mem_drop (List.mem_of_mem_take hcm))
      exact (hc i c hi).1
     ·intro j u hu
      rw [List.getElem?_take] at hu
      split at hu
      ·rw [List.getElem?_drop] at hu
       rw [cell_of_heap hh]
       simpa using hu
      ·cases hu
    ·cases h
   | frozen l =>
    simp only [hb] at h
    split at h
    ·rename_i hl
     simp only [Option.some.injEq] at h
     have hc : RepC g l B 0 := hrel
     have hc := (hc.drop off).take n
     rw [h] at hc
     simp only [Nat.zero_add] at hc
     refine ⟨B, off, cs.mapIdx fun i _ => (g.G B (off + i)).getD .nilIface, rfl, ?_, by subst h; simp; omega, ?_, ?_⟩
     ·rw [RepL.iff]
      refine ⟨by simp, fun i x hx => ?_⟩
      obtain ⟨v, hv, hr, _⟩ := RepC.iff.1 hc i x hx
      refine ⟨v, ?_, hr⟩
      rw [List.getElem?_mapIdx, hx]
      simp [hv]
     ·intro c hcm
      obtain ⟨i, hi⟩ := List.mem_iff_getElem?.1 hcm
      obtain ⟨_, _, _, h1⟩ := RepC.iff.1 hc i c hi
      exact h1
     ·intro j u hu
      rw [List.getElem?_mapIdx] at hu
      cases hx : cs[j]? with
      | none => simp [hx] at hu
      | some x =>
       obtain ⟨v, hv, _⟩ := RepC.iff.1 hc j x hx
       simp [hx, hv] at hu
       subst hu
       exact hI.agree _ _ _ hv
    ·cases h
   | map es c => simp [hb] at h
   | loop t ps as bo st pend db => simp [hb] at h
   | dfr op => simp [hb] at h
   | iter _ _ _ _ => simp [hb] at h
   | res => simp [hb] at h
   | bld T e used s => simp [hb] at h
 | _ => simp [readP] at h
theorem run_loadCells_at (B o : Nat) (vs : List Value) (h : ∀ (j : Nat) (u : Value), vs[j]? = some u → w.cell? ⟨B, o + j, none⟩ = some u) :
  (loadCells ⟨B, o, none⟩ vs.length).run P w = .ok vs.toArray w :=
 run_loadCells_list (P := P) w ⟨B, o, none⟩ vs fun j v hv => by rw [add_none]; exact h j v hv
theorem loadP_run {p : V} {t : TypeId} {x : V} (h : loadP P H t p = some x) (hI : Inv g n0 H w) {v : Value} (r : Rep g p v) :
  ∃ u B o, v = .pointer (some ⟨B, o, none⟩) ∧ (loadVar t ⟨B, o, none⟩).run P w = .ok u w ∧ Rep g x u := by
 unfold loadP at h
 cases ha : isAggO P t with
 | none => simp [ha] at h
 | some b =>
  cases b with
  | true =>
   simp only [ha] at h
   cases hs : szO P t with
   | none => simp [hs] at h
   | some n =>
    simp only [hs, Option.map_eq_some_iff] at h
    obtain ⟨cs, hcs, rfl⟩ := h
    obtain ⟨B, o, vs, rfl, hr, hl, _, hc⟩ := readP_rep hcs hI r
    refine ⟨.agg vs.toArray, B, o, rfl, ?_, ?_⟩
    ·have := run_loadCells_at (P := P) B o vs hc
     rw [← hr.length, hl] at this
     simp [loadVar, run_isAggO ha, run_szO hs, this]
    ·simp only [Rep]; exact ⟨vs.toArray, rfl, hr⟩
  | false =>
   simp only [ha] at h
   split at h
   ·rename_i y hy
    simp only [Option.some.injEq] at h
    subst h
    obtain ⟨B, o, vs, rfl, hr, hl, _, hc⟩ := readP_rep hy hI r
    cases vs with
    | nil => have := hr.length; simp at this
    | cons u us =>
     rw [RepL.cons_iff] at hr
     have h0 := hc 0 u (by simp)
     simp only [Nat.add_zero] at h0
     exact ⟨u, B, o, rfl, by simp [loadVar, run_isAggO ha, run_load, h0], hr.1⟩
   ·cases h
theorem loadAt_run {p : V} {t : TypeId} {x : V} (h : loadP P H t p = some x) (hI : Inv g n0 H w) {v : Value} (r : Rep g p v) :
  ∃ u, (Instr.loadAt t v).run P w = .ok u w ∧ Rep g x u := by
 obtain ⟨u, B, o, rfl, h1, h2⟩ := loadP_run h hI r
 exact ⟨u, by simp [Instr.loadAt, Instr.sureAddr, h1], h2⟩
theorem writeL_length : ∀ (vs cs : List V) (i : Nat), (writeL cs i vs).length = cs.length
 | [], cs, i => rfl
 | v :: vs, cs, i => by rw [writeL, writeL_length]; simp
theorem writeL_get : ∀ (vs cs : List V) (i j : Nat), (writeL cs i vs)[j]? = if i ≤ j ∧ j < i + vs.length ∧ j < cs.length then vs[j - i]? else cs[j]?
 | [], cs, i, j => by simp [writeL]; intros; omega
 | v :: vs, cs, i, j => by
  rw [writeL, writeL_get]
  simp only [List.length_set, List.length_cons]
  by_cases h1 : i + 1 ≤ j ∧ j < i + 1 + vs.length ∧ j < cs.length
  ·rw [if_pos h1, if_pos (by omega), show j - i = (j - (i + 1)) + 1 by omega]
   simp
  ·rw [if_neg h1]
   by_cases h2 : j = i
   ·subst h2
    by_cases h3 : j < cs.length
    ·rw [if_pos (by omega)]; simp [h3]
    ·rw [if_neg (by omega)]; simp [h3]
   ·rw [if_neg (by omega), List.getElem?_set_ne (Ne.symm h2)]
theorem storeCells_run (B o : Nat) (e : TypeId) (fz : Nat × Nat) : ∀ (vs : List Value) (i : Nat) (arr : Array Value) (w : World), w.heap[B]? = some (.cells arr e fz) →
  o + i + vs.length ≤ arr.size → (∀ j, j < vs.length → ¬ (fz.1 ≤ o + i + j ∧ o + i + j < fz.2)) → (∀ v ∈ vs, v.oneCell' = true) →
  ∃ w' arr', (storeCells ⟨B, o, none⟩ vs i).run P w = .ok () w' ∧ But B w w' ∧ w'.heap[B]? = some (.cells arr' e fz) ∧ arr'.size = arr.size ∧
   ∀ j, arr'[j]? = if o + i ≤ j ∧ j < o + i + vs.length then vs[j - (o + i)]? else arr[j]?
 | [], i, arr, w, hh, hl, hf, h1 => ⟨w, arr, by simp [storeCells], But.refl B w, hh, rfl, fun j => by rw [if_neg (by simp)]⟩
 | v :: vs, i, arr, w, hh, hl, hf, h1 => by
  simp only [List.length_cons] at hl hf
  have hc : w.cell? ⟨B, o + i, none⟩ = some arr[o + i] := by rw [cell_of_heap hh]; simp [show o + i < arr.size by omega]
  have hfr : w.frozen? ⟨B, o + i, none⟩ = false := by
   have := hf 0 (by omega)
   simp only [Nat.add_zero] at this
   simp only [World.frozen?, hh]
   simpa using this
  have hs : (store ⟨B, o + i, none⟩ v).run P w = .ok () (w.setCell ⟨B, o + i, none⟩ v) := by
   rw [run_store P w _ v _ (h1 v (by simp))]
   simp [hc, hfr]
  have hh' : (w.setCell ⟨B, o + i, none⟩ v).heap[B]? = some (.cells (arr.setIfInBounds (o + i) v) e fz) := by
   simp [World.setCell, Array.getElem?_modify, hh]
  obtain ⟨w', arr', r1, r2, r3, r4, r5⟩ := storeCells_run B o e fz vs (i + 1) (arr.setIfInBounds (o + i) v) _ hh' (by simp; omega)
   (fun j hj => by have := hf (j + 1) (by omega); rwa [show o + i + (j + 1) = o + (i + 1) + j by omega] at this) (fun x hx => h1 x (by simp [hx]))
  refine ⟨w', arr', ?_, (But.setCell w ⟨B, o + i, none⟩ v).trans r2, r3, by simpa using r4, fun j => ?_⟩
  ·simp only [storeCells, Sem.run_bind, add_none, hs, Result.andThen_ok]
   exact r1
  ·rw [r5]
   by_cases hj : o + (i + 1) ≤ j ∧ j < o + (i + 1) + vs.length
   ·rw [if_pos hj, if_pos (by simp; omega), show j - (o + i) = (j - (o + (i + 1))) + 1 by omega]
    simp
   ·rw [if_neg hj]
    by_cases he : j = o + i
    ·subst he
     rw [if_pos (by simp)]
     simp [show o + i < arr.size by omega]
    ·rw [if_neg (by simp; omega), Array.getElem?_setIfInBounds_ne (Ne.symm he)]
theorem storeP_run {p x : V} {t : TypeId} {H' : Heap} (h : storeP P H t p x = some H') (hI : Inv g n0 H w) {v u : Value} (r : Rep g p v) (rx : Rep g x u) :
  ∃ w', (Instr.storeAt t v u).run P w = .ok () w' ∧ Good n0 g w g w' ∧ Inv g n0 H' w' := by
 unfold storeP at h
 cases p with
 | ptr a off =>
  simp only [Rep] at r
  obtain ⟨B, hmu, rfl⟩ := r
  cases hs : szO P t with
  | none => simp [hs] at h
  | some n =>
   cases hx : x.cellsO with
   | none => simp [hs, hx] at h
   | some vs =>
    simp only [hs, hx] at h
    split at h
    ·rename_i hn
     split at h
     ·rename_i cs hb
      split at h
      ·rename_i hl
       simp only [Option.some.injEq] at h
       subst h
       obtain ⟨B', hmu', hn0, hbe, hG, arr, e, fz, hh, hsz, hc, hf, hcp⟩ := hI.blk a _ hb
       rw [hmu] at hmu'
       simp only [Option.some.injEq] at hmu'
       subst hmu'
       obtain ⟨hrl, hone⟩ := cellsO_rep hx rx
       have hlen : vs.length = u.cells.toList.length := hrl.length
       obtain ⟨w', arr', r1, r2, r3, r4, r5⟩ := storeCells_run (P := P) B off e fz u.cells.toList 0 arr w hh (by omega)
        (fun j hj => hf _ (by omega)) (fun c hc' => by
         obtain ⟨i, hi⟩ := List.mem_iff_getElem?.1 hc'
         have hlt : i < u.cells.toList.length := (List.getElem?_eq_some_iff.1 hi).1
         obtain ⟨y, hy⟩ : ∃ y, vs[i]? = some y := ⟨vs[i]'(by omega), by simp [show i < vs.length by omega]⟩
         obtain ⟨z, hz, hr⟩ := hrl.get hy
         rw [hi] at hz
         simp only [Option.some.injEq] at hz
         subst hz
         exact one_rep (hone y (List.mem_of_getElem? hy)) hr)
       have hlt : a < H.bs.length := (List.getElem?_eq_some_iff.1 hb).1
       have := hI.updBlk (.cells (writeL cs off vs)) hlt hmu hn0 hbe hG r2 ⟨hbe, hG, arr', e, fz, r3, by rw [writeL_length, r4]; exact hsz, fun i y hy => ?_, fun i hi => hf i (by rwa [writeL_length] at hi), by rw [writeL_length]; exact hcp.1, by rw [r4]; exact hcp.2.1, hcp.2.2⟩
       ·refine ⟨w', ?_, this.2, this.1⟩
        have hcs : u.cells.size = n := by rw [← hn, hlen]; simp
        simp only [Instr.storeAt, Instr.sureAddr, storeVar, Sem.run_bind, Sem.run_pure, Result.andThen_ok, run_szO hs, hcs]
        simpa using r1
       ·rw [writeL_get] at hy
        rw [r5]
        simp only [Nat.add_zero]
        split at hy
        ·rename_i hi
         rw [if_pos (by omega)]
         obtain ⟨z, hz, hr⟩ := hrl.get hy
         exact ⟨hone y (List.mem_of_getElem? hy), z, hz, hr⟩
        ·rename_i hi
         have hic : i < cs.length := (List.getElem?_eq_some_iff.1 hy).1
         rw [if_neg (by omega)]
         exact hc i y hy
      ·cases h
     ·cases h
    ·cases h
 | _ => simp at h
theorem zeroCs_run {t : TypeId} {z : List V} (h : zeroCs P t = some z) (g : Gh) :
  ∃ i v, P.info? t = some i ∧ i.zero = some v ∧ RepL g z v.cells.toList ∧ (∀ c ∈ z, V.one c = true) ∧ z.length = i.size ∧ v.cells.size = i.size := by
 unfold zeroCs at h
 cases hi : P.info? t with
 | none => simp [hi] at h
 | some i =>
  simp only [hi] at h
  cases hz : i.zero with
  | none => simp [hz] at h
  | some v =>
   simp only [hz] at h
   split at h
   ·rename_i hc
    simp only [Option.some.injEq] at h
    subst h
    simp only [Bool.and_eq_true, List.all_eq_true, beq_iff_eq] at hc
    have hr := ofZero_rep g v
    exact ⟨i, v, rfl, hz, hr, hc.1, hc.2, by have := hr.length; simp at this; omega⟩
   ·cases h
theorem run_zeroValue {t : TypeId} {i : TypeInfo} {v : Value} (hi : P.info? t = some i) (hz : i.zero = some v) (w : World) : (zeroValue t).run P w = .ok v w := by
 simp [zeroValue, run_typeInfo hi, hz]
end Go.Ab
namespace Go.Ab
open Go.RowKit (Below)
variable {P : Program} {g : Gh} {n0 : Nat} {H : Heap} {w : World}
theorem rep_int {k : IntKind} {n : Int} {v : Value} (h : Rep g (.int k n) v) : v = .int k n := by simpa [Rep] using h
theorem rep_bool {b : Bool} {v : Value} (h : Rep g (.bool b) v) : v = .bool b := by simpa [Rep] using h
theorem rep_str {s : List UInt8} {v : Value} (h : Rep g (.str s) v) : v = .string ⟨s.toArray⟩ := by simpa [Rep] using h
theorem Rep.int (k : IntKind) (n : Int) : Rep g (.int k n) (.int k n) := by simp [Rep]
theorem Rep.bool (b : Bool) : Rep g (.bool b) (.bool b) := by simp [Rep]
theorem Rep.str (s : List UInt8) : Rep g (.str s) (.string ⟨s.toArray⟩) := by simp [Rep]
theorem Rep.undef (v : Value) : Rep g .undef v := by simp [Rep]
theorem Rep.tuple0 : Rep g (.tuple []) Go.undef := by simp only [Rep, Go.undef]; exact ⟨#[], rfl, RepL.nil g⟩
theorem packV_run {t : TypeId} {cs : List V} {x : V} (h : packV P t cs = some x) {all : Array Value} {off n : Nat} (hs : szO P t = some n)
    (hr : RepL g cs ((all.toList.drop off).take n)) (hlen : off + n ≤ all.size) (w : World) : ∃ u, (part t all off).run P w = .ok u w ∧ Rep g x u := by
  unfold packV at h
  cases ha : isAggO P t with
  | none => simp [ha] at h
  | some b =>
    cases b with
    | true =>
      simp only [ha, Option.some.injEq] at h
      subst h
      refine ⟨.agg (all.extract off (off + n)), by simp [part, run_isAggO ha, run_szO hs], ?_⟩
      simp only [Rep]
      refine ⟨_, rfl, ?_⟩
      rw [Array.toList_extract]
      simpa [List.extract_eq_take_drop] using hr
    | false =>
      simp only [ha] at h
      split at h
      · rename_i v
        simp only [Option.some.injEq] at h
        subst h
        have hl := hr.length
        simp at hl
        obtain ⟨u, hu, hru⟩ := hr.get (i := 0) (x := v) (by simp)
        rw [List.getElem?_take] at hu
        split at hu
        · simp at hu
          refine ⟨u, ?_, hru⟩
          simp [part, run_isAggO ha, hu]
        · cases hu
      · cases h
theorem fieldO_inv {s : TypeId} {f fo ft n : Nat} (h : fieldO P s f = some (fo, ft, n)) : ∃ fd fs, P.underlying s = some (.struct fs) ∧ fs[f]? = some fd ∧ szO P ft = some n ∧ fd.offset = fo ∧ fd.type = ft := by
  unfold fieldO at h
  cases hf : fieldOf P s f with
  | none => simp [hf] at h
  | some fd =>
    simp only [hf, Option.map_eq_some_iff, Prod.mk.injEq] at h
    obtain ⟨m, hm, h1, h2, rfl⟩ := h
    unfold fieldOf at hf
    cases hu : P.underlying s with
    | none => simp [hu] at hf
    | some d =>
      cases d <;> simp only [hu] at hf <;> first | (cases hf; done) | skip
      exact ⟨fd, _, rfl, hf, by rw [← h2]; exact hm, h1, h2⟩
theorem fieldV_run {s : TypeId} {x y : V} {f : Nat} (h : fieldV P s x f = some y) {v : Value} (r : Rep g x v) (w : World) : ∃ u, (Instr.field s v f).run P w = .ok u w ∧ Rep g y u := by
  unfold fieldV at h
  split at h
  · rename_i fo ft n cs hf
    obtain ⟨fd, fs, hu, hfs, hs, rfl, rfl⟩ := fieldO_inv hf
    split at h
    · rename_i hl
      simp only [Rep] at r
      obtain ⟨vs, rfl, r⟩ := r
      have hlen := r.length
      simp at hlen
      obtain ⟨u, h1, h2⟩ := packV_run h (all := vs) (off := fd.offset) hs ((r.drop _).take _) (by omega) w
      refine ⟨u, ?_, h2⟩
      simp [Instr.field, run_underlying hu, hfs, asAgg, h1]
    · cases h
  · cases h
theorem indexV_run {t : TypeId} {x i y : V} (h : indexV P t x i = some y) {v vi : Value} (r : Rep g x v) (ri : Rep g i vi) (w : World) :
    ∃ u, (Instr.index t v vi).run P w = .ok u w ∧ Rep g y u := by
  unfold indexV at h
  cases i with
  | int k n =>
    have := rep_int ri
    subst this
    cases x with
    | agg cs =>
      simp only [intOf?] at h
      cases hu : P.underlying t with
      | none => simp [hu] at h
      | some d =>
        cases d <;> simp only [hu] at h <;> first | (cases h; done) | skip
        rename_i len e
        cases hs : szO P e with
        | none => simp [hs] at h
        | some sz =>
          simp only [hs] at h
          split at h
          · rename_i hc
            simp only [Rep] at r
            obtain ⟨vs, rfl, r⟩ := r
            have hlen := r.length
            simp at hlen
            obtain ⟨u, h1, h2⟩ := packV_run h (all := vs) (off := n.toNat * sz) hs ((r.drop _).take _) (by omega) w
            refine ⟨u, ?_, h2⟩
            simp [Instr.index, asIntOf, run_underlying hu, run_szO hs, h1, hc.1, show n < (len : Int) by omega]
          · cases h
    | str s =>
      simp only [intOf?] at h
      cases hu : P.underlying t with
      | none => simp [hu] at h
      | some d =>
        cases d <;> simp only [hu] at h <;> first | (cases h; done) | skip
        split at h
        · rename_i h0
          simp only [Option.map_eq_some_iff] at h
          obtain ⟨b, hb, rfl⟩ := h
          have := rep_str r
          subst this
          refine ⟨.int .u8 b.toNat, ?_, Rep.int _ _⟩
          have hb' : (⟨s.toArray⟩ : ByteArray)[n.toNat]? = some b := by
            have hl : n.toNat < s.length := (List.getElem?_eq_some_iff.1 hb).1
            have : n.toNat < (⟨s.toArray⟩ : ByteArray).size := by simpa [ByteArray.size] using hl
            rw [getElem?_pos (⟨s.toArray⟩ : ByteArray) n.toNat this]
            have he := (List.getElem?_eq_some_iff.1 hb).2
            simp only [Option.some.injEq]
            rw [← he]
            rfl
          simp [Instr.index, asIntOf, run_underlying hu, h0, hb']
        · cases h
    | _ => simp [intOf?] at h
  | _ => cases x <;> simp [intOf?] at h
theorem fieldAddrV_run {s : TypeId} {x y : V} {f : Nat} (h : fieldAddrV P s x f = some y) {v : Value} (r : Rep g x v) (w : World) :
    ∃ u, (Instr.fieldAt s v f).run P w = .ok u w ∧ Rep g y u := by
  unfold fieldAddrV at h
  split at h
  · rename_i fo ft n hf
    obtain ⟨fd, fs, hu, hfs, hs, rfl, rfl⟩ := fieldO_inv hf
    split at h
    · cases h
    · rename_i hn
      have key : ∀ B o, (Instr.fieldAt s (.pointer (some ⟨B, o, none⟩)) f).run P w = .ok (.pointer (some ⟨B, o + fd.offset, none⟩)) w := by
        intro B o
        simp [Instr.fieldAt, run_underlying hu, hfs, Instr.sureAddr, fieldPlace, run_szO hs, hn, add_none]
      cases x with
      | ptr a off =>
        simp only [Option.some.injEq] at h
        subst h
        simp only [Rep] at r
        obtain ⟨B, hmu, rfl⟩ := r
        exact ⟨_, key B off, by simp only [Rep]; exact ⟨B, hmu, rfl⟩⟩
      | rptr cs =>
        simp only [Option.some.injEq] at h
        subst h
        simp only [Rep] at r
        obtain ⟨B, o, rfl, hc⟩ := r
        exact ⟨_, key B o, by simp only [Rep]; exact ⟨B, o + fd.offset, rfl, hc.drop _⟩⟩
      | _ => simp at h
  · cases h
theorem indexAddrV_run {t : TypeId} {x i y : V} (h : indexAddrV P t x i = some y) {v vi : Value} (r : Rep g x v) (ri : Rep g i vi) (w : World) :
    ∃ u, (Instr.indexAt t v vi).run P w = .ok u w ∧ Rep g y u := by
  unfold indexAddrV at h
  cases i with
  | int k n =>
    have := rep_int ri
    subst this
    cases x with
    | row nl fl cs m tok =>
      simp only [intOf?] at h
      unfold elemOfSlice at h
      cases hu : P.underlying t with
      | none => simp [hu] at h
      | some d =>
        cases d <;> simp only [hu] at h <;> first | (cases h; done) | skip
        rename_i e
        cases hs : szO P e with
        | none => simp [hs] at h
        | some sz =>
          simp only [hs] at h
          split at h
          · rename_i hc
            simp only [Option.some.injEq] at h
            subst h
            simp only [Rep] at r
            obtain ⟨a, cap, rfl, h1, h2, h3, h4, h5, h6⟩ := r
            cases a with
            | none =>
              have hc3 := hc.2.2
              rw [(h5 rfl).1] at hc3
              simp at hc3
            | some A =>
              obtain ⟨s1, s2, s3⟩ := h6 A rfl
              obtain ⟨B, o, sp⟩ := A
              simp only at s1 s2
              have s1 := s1 (fun e => by rw [e] at hc; simp at hc)
              subst s1
              refine ⟨.pointer (some ⟨B, o + n.toNat * sz, none⟩), ?_, ?_⟩
              · simp [Instr.indexAt, asIntOf, run_underlying hu, run_szO hs, hc.1, show n < (m : Int) by omega, add_none]
              · simp only [Rep]; exact ⟨B, _, rfl, s2.drop _⟩
          · cases h
    | slice a off len sz =>
      simp only [intOf?] at h
      unfold elemOfSlice at h
      cases hu : P.underlying t with
      | none => simp [hu] at h
      | some d =>
        cases d <;> simp only [hu] at h <;> first | (cases h; done) | skip
        rename_i e
        split at h
        · rename_i hc
          simp only [Option.some.injEq] at h
          subst h
          simp only [Rep] at r
          obtain ⟨B, cap, hmu, rfl, _⟩ := r
          refine ⟨.pointer (some ⟨B, off + n.toNat * sz, none⟩), ?_, ?_⟩
          · simp [Instr.indexAt, asIntOf, run_underlying hu, run_szO hc.1, hc.2.1, show n < (len : Int) by omega, add_none]
          · simp only [Rep]; exact ⟨B, hmu, rfl⟩
        · cases h
    | ptr a off =>
      simp only [intOf?] at h
      cases hu : P.underlying t with
      | none => simp [hu] at h
      | some d =>
        cases d <;> simp only [hu] at h <;> first | (cases h; done) | skip
        rename_i len e
        cases hs : szO P e with
        | none => simp [hs] at h
        | some sz =>
          simp only [hs] at h
          split at h
          · rename_i hc
            simp only [Option.some.injEq] at h
            subst h
            simp only [Rep] at r
            obtain ⟨B, hmu, rfl⟩ := r
            refine ⟨.pointer (some ⟨B, off + n.toNat * sz, none⟩), ?_, ?_⟩
            · simp [Instr.indexAt, asIntOf, run_underlying hu, run_szO hs, Instr.sureAddr, hc.1, show n < (len : Int) by omega, add_none]
            · simp only [Rep]; exact ⟨B, hmu, rfl⟩
          · cases h
    | rptr cs =>
      simp only [intOf?] at h
      cases hu : P.underlying t with
      | none => simp [hu] at h
      | some d =>
        cases d <;> simp only [hu] at h <;> first | (cases h; done) | skip
        rename_i len e
        cases hs : szO P e with
        | none => simp [hs] at h
        | some sz =>
          simp only [hs] at h
          split at h
          · rename_i hc
            simp only [Option.some.injEq] at h
            subst h
            simp only [Rep] at r
            obtain ⟨B, o, rfl, hcs⟩ := r
            refine ⟨.pointer (some ⟨B, o + n.toNat * sz, none⟩), ?_, ?_⟩
            · simp [Instr.indexAt, asIntOf, run_underlying hu, run_szO hs, Instr.sureAddr, hc.1, show n < (len : Int) by omega, add_none]
            · simp only [Rep]; exact ⟨B, _, rfl, hcs.drop _⟩
          · cases h
    | _ => simp [intOf?] at h
  | _ => cases x <;> simp [intOf?] at h
theorem ex_int {s : Sem Value} {k : IntKind} {n : Int} (h : s.run P w = .ok (.int k n) w) : ∃ u, s.run P w = .ok u w ∧ Rep g (.int k n) u := ⟨_, h, Rep.int k n⟩
theorem ex_bool {s : Sem Value} {b : Bool} (h : s.run P w = .ok (.bool b) w) : ∃ u, s.run P w = .ok u w ∧ Rep g (.bool b) u := ⟨_, h, Rep.bool b⟩
theorem ex_str {s : Sem Value} {l : List UInt8} (h : s.run P w = .ok (.string ⟨l.toArray⟩) w) : ∃ u, s.run P w = .ok u w ∧ Rep g (.str l) u := ⟨_, h, Rep.str l⟩
theorem arithI_run {op : BinOp} {t : TypeId} {k : IntKind} {a b : Int} {y : V} (h : arithI op k a b = some y) (x1 x2 : Operand) (w : World) :
    ∃ u, (do eqGuard op t x1 x2 (.int k a) (.int k b); binOp op t (.int k a) (.int k b) : Sem Value).run P w = .ok u w ∧ Rep g y u := by
  cases op <;> simp only [arithI, cmpI] at h
  all_goals first
    | (cases h; done)
    | (simp only [Option.some.injEq] at h; subst h; first | refine ex_int ?_ | refine ex_bool ?_
       simp [eqGuard_at_int, binOp, Op.intArith, Op.intCmp, Op.intBits]; done)
    | (split at h
       · cases h
       · rename_i hb
         simp only [Option.some.injEq] at h; subst h
         refine ex_int ?_
         simp [eqGuard_at_int, binOp, Op.intDiv, hb])
theorem shiftI_run {op : BinOp} {t : TypeId} {k yk : IntKind} {a b : Int} {y : V} (ho : op = .shl ∨ op = .shr) (h : shiftI op k a b = some y) (x1 x2 : Operand) (w : World) :
    ∃ u, (do eqGuard op t x1 x2 (.int k a) (.int yk b); binOp op t (.int k a) (.int yk b) : Sem Value).run P w = .ok u w ∧ Rep g y u := by
  unfold shiftI at h
  split at h
  · cases h
  · rename_i hb
    rcases ho with rfl | rfl
    · simp only [Option.some.injEq] at h; subst h
      exact ex_int (by simp [eqGuard_at_int, binOp, Op.shift, hb])
    · simp only [Option.some.injEq] at h; subst h
      exact ex_int (by simp [eqGuard_at_int, binOp, Op.shift, hb])
theorem strLess_eq : ∀ a b : List UInt8, strLess a b = Op.bytesLess a b
  | _, [] => by cases ‹List UInt8› <;> rfl
  | [], _ :: _ => rfl
  | a :: x, b :: y => by simp only [strLess, Op.bytesLess, strLess_eq x y]
theorem strOp_run {op : BinOp} {t : TypeId} {a b : List UInt8} {y : V} (h : strOp op a b = some y) (x1 x2 : Operand) (w : World) :
    ∃ u, (do eqGuard op t x1 x2 (.string ⟨a.toArray⟩) (.string ⟨b.toArray⟩); binOp op t (.string ⟨a.toArray⟩) (.string ⟨b.toArray⟩) : Sem Value).run P w = .ok u w ∧ Rep g y u := by
  cases op <;> simp only [strOp] at h
  all_goals first
    | (cases h; done)
    | (simp only [Option.some.injEq] at h; subst h; refine ex_bool ?_
       simp [eqGuard_at_string, binOp, Op.stringOp, strLess_eq]; done)
    | (split at h
       · rename_i hb
         simp only [Option.some.injEq] at h; subst h
         refine ex_str ?_
         have hs : ((⟨a.toArray⟩ : ByteArray).size : Nat) = a.length := by simp [ByteArray.size]
         have hs' : ((⟨b.toArray⟩ : ByteArray).size : Nat) = b.length := by simp [ByteArray.size]
         have : (⟨a.toArray⟩ : ByteArray) ++ (⟨b.toArray⟩ : ByteArray) = ⟨(a ++ b).toArray⟩ := by
           rw [show (⟨a.toArray⟩ : ByteArray) ++ (⟨b.toArray⟩ : ByteArray) = ByteArray.append ⟨a.toArray⟩ ⟨b.toArray⟩ from rfl]
           apply ByteArray.ext
           simp
         simp only [eqGuard_at_string, binOp, Op.stringOp, Sem.run_bind, Sem.run_pure, Result.andThen_ok, Sem.run_ite, hs, hs', this]
         rw [if_neg (by simp; omega)]
       · cases h)
theorem eqCell_run {t : TypeId} {x y : V} {b : Bool} (h : eqCell P t x y = some b) {v u : Value} (rx : Rep g x v) (ry : Rep g y u) (d : Nat) (w : World) :
    (Op.equalIn (d + 1) t v u).run P w = .ok b w := by
  unfold eqCell at h
  split at h
  · rename_i hu
    have := rep_bool rx; have := rep_bool ry; subst_vars
    simp only [Option.some.injEq] at h
    simp [Op.equalIn, run_underlying hu, h]
  · rename_i hu
    have := rep_int rx; have := rep_int ry; subst_vars
    split at h
    · rename_i hk
      simp only [Option.some.injEq] at h
      simp [Op.equalIn, run_underlying hu, h, hk]
    · cases h
  · rename_i hu
    have := rep_str rx; have := rep_str ry; subst_vars
    simp only [Option.some.injEq] at h
    rw [run_equalIn_string w d t _ _ hu]
    simp [h]
  · cases h
theorem part_one {t : TypeId} {xs : Array Value} {i : Nat} {v : Value} (ha : isAggO P t = some false) (h : xs[i]? = some v) (w : World) : (part t xs i).run P w = .ok v w := by
  simp [part, run_isAggO ha, h]
theorem eqFields_run (d : Nat) : ∀ (fs : List Field) {xs ys : List V} {b : Bool} {vs us : Array Value}, eqFields P xs ys fs = some b → RepL g xs vs.toList → RepL g ys us.toList → ∀ w : World,
    (Op.eqFields (d + 1) vs us fs).run P w = .ok b w
  | [], xs, ys, b, vs, us, h, rx, ry, w => by
    simp only [eqFields, Option.some.injEq] at h
    subst h
    simp [Op.eqFields]
  | f :: fs, xs, ys, b, vs, us, h, rx, ry, w => by
    simp only [eqFields] at h
    simp only [Op.eqFields]
    split at h
    · rename_i hn
      rw [if_pos hn]
      split at h
      · rename_i x y hx hy ha
        obtain ⟨v, hv, hrv⟩ := rx.get hx
        obtain ⟨u, hu, hru⟩ := ry.get hy
        have p1 := part_one (P := P) ha (by simpa using hv) w
        have p2 := part_one (P := P) ha (by simpa using hu) w
        split at h
        · rename_i he
          have := eqCell_run he hrv hru d w
          simp only [Sem.run_bind, p1, p2, this, Result.andThen_ok]
          simp only [Bool.not_true, Bool.false_eq_true, if_false]
          exact eqFields_run d fs h rx ry w
        · rename_i he
          have := eqCell_run he hrv hru d w
          simp only [Option.some.injEq] at h
          subst h
          simp [Sem.run_bind, p1, p2, this]
        · cases h
      · cases h
    · rename_i hn
      rw [if_neg hn]
      exact eqFields_run d fs h rx ry w
theorem eqCell_runD {t : TypeId} {x y : V} {b : Bool} (h : eqCell P t x y = some b) {v u : Value} (rx : Rep g x v) (ry : Rep g y u) {D : Nat} (hD : 0 < D) (w : World) :
    (Op.equalIn D t v u).run P w = .ok b w := by
  obtain ⟨d, rfl⟩ : ∃ d, D = d + 1 := ⟨D - 1, by omega⟩
  exact eqCell_run h rx ry d w
theorem eqElems_run {D : Nat} (hD : 0 < D) (e : TypeId) (ha : isAggO P e = some false) {xs ys : List V} {vs us : Array Value} (rx : RepL g xs vs.toList) (ry : RepL g ys us.toList) (w : World) :
    ∀ (n s : Nat) (b : Bool), s + n = xs.length → s + n = ys.length → eqElems P e (xs.drop s) (ys.drop s) = some b →
    Sem.run P (forIn (List.range' s n) (none, ()) fun i (_ : Option Bool × Unit) => do
            let a ← part e vs (i * 1)
            let c ← part e us (i * 1)
            let r ← Op.equalIn D e a c
            if (!r) = true then pure (ForInStep.done (some false, ())) else pure (ForInStep.yield (none, ()))) w = .ok (if b then (none, ()) else (some false, ())) w
  | 0, s, b, h1, h2, h => by
    rw [List.drop_eq_nil_of_le (by omega), List.drop_eq_nil_of_le (by omega)] at h
    simp only [eqElems, Option.some.injEq] at h
    subst h
    simp
  | n + 1, s, b, h1, h2, h => by
    obtain ⟨x, hx⟩ : ∃ x, xs[s]? = some x := ⟨xs[s]'(by omega), by simp [show s < xs.length by omega]⟩
    obtain ⟨y, hy⟩ : ∃ y, ys[s]? = some y := ⟨ys[s]'(by omega), by simp [show s < ys.length by omega]⟩
    have ex : xs.drop s = x :: xs.drop (s + 1) := by
      rw [List.drop_eq_getElem_cons (by omega)]; congr 1; exact Option.some.inj ((List.getElem?_eq_getElem (by omega)).symm.trans hx)
    have ey : ys.drop s = y :: ys.drop (s + 1) := by
      rw [List.drop_eq_getElem_cons (by omega)]; congr 1; exact Option.some.inj ((List.getElem?_eq_getElem (by omega)).symm.trans hy)
    rw [ex, ey] at h
    simp only [eqElems] at h
    obtain ⟨v, hv, hrv⟩ := rx.get hx
    obtain ⟨u, hu, hru⟩ := ry.get hy
    have p1 := part_one (P := P) ha (by simpa using hv) w
    have p2 := part_one (P := P) ha (by simpa using hu) w
    simp only [List.range'_succ, List.forIn_cons, Nat.mul_one, Sem.run_bind, p1, p2, Result.andThen_ok]
    split at h
    · rename_i he
      simp only [eqCell_runD he hrv hru hD w, Result.andThen_ok, Bool.not_true, Bool.false_eq_true, if_false, Sem.run_pure]
      have := eqElems_run hD e ha rx ry w n (s + 1) b (by omega) (by omega) h
      simp only [Nat.mul_one] at this
      exact this
    · rename_i he
      simp only [Option.some.injEq] at h
      subst h
      simp [eqCell_runD he hrv hru hD w]
    · cases h
theorem run_equalIn_arr {D : Nat} (hD : 0 < D) (t e : TypeId) (len : Nat) {xs ys : List V} {vs us : Array Value} {b : Bool} (ht : P.underlying t = some (.array len e)) (ha : isAggO P e = some false) (hs : szO P e = some 1)
    (h1 : xs.length = len) (h2 : ys.length = len) (rx : RepL g xs vs.toList) (ry : RepL g ys us.toList) (h : eqElems P e xs ys = some b) (w : World) :
    (Op.equalIn (D + 1) t (.agg vs) (.agg us)).run P w = .ok b w := by
  simp only [Op.equalIn, Sem.run_bind, run_underlying ht, Result.andThen_ok, run_szO hs, Std.Legacy.Range.forIn_eq_forIn_range']
  have hsz : ({ start := 0, stop := len, step := 1, step_pos := by decide } : Std.Legacy.Range).size = len := by simp [Std.Legacy.Range.size]
  rw [hsz]
  have := eqElems_run (P := P) hD e ha rx ry w len 0 b (by omega) (by omega) (by simpa using h)
  rw [this]
  cases b <;> simp
theorem fieldsOf_eq {t : TypeId} {fs : Array Field} (hu : P.underlying t = some (.struct fs)) : P.fieldsOf t = fs := by simp [Program.fieldsOf, hu]
theorem equal_of {t : TypeId} {v u : Value} {b : Bool} {w : World} (h : ∀ D, (Op.equalIn (D + 1) t v u).run P w = .ok b w) : (Op.equal t v u).run P w = .ok b w := h 9999
set_option maxHeartbeats 4000000 in
theorem eqV_run {t : TypeId} {x y : V} {b : Bool} {x1 x2 : Operand} (h : eqV P (isConst x1 || isConst x2) t x y = some b) {v u : Value} (rx : Rep g x v) (ry : Rep g y u) (op : BinOp) (w : World) :
    (eqGuard op t x1 x2 v u).run P w = .ok () w ∧ (Op.equal t v u).run P w = .ok b w := by
  unfold eqV at h
  split at h <;> (try (simp only [Rep] at rx ry)) <;> rename_i hu
  · subst rx; subst ry
    simp only [Option.some.injEq] at h
    exact ⟨by simp [eqGuard_at_bool], equal_of fun D => by simp [Op.equalIn, run_underlying hu, h]⟩
  · subst rx; subst ry
    simp only [Option.some.injEq] at h
    exact ⟨by simp [eqGuard_at_pointer], equal_of fun D => by simp [Op.equalIn, run_underlying hu, h]⟩
  · subst rx
    obtain ⟨B, _, rfl⟩ := ry
    simp only [Option.some.injEq] at h
    exact ⟨by simp [eqGuard_at_pointer], equal_of fun D => by simp [Op.equalIn, run_underlying hu, h]⟩
  · subst rx
    obtain ⟨B, o, rfl, _⟩ := ry
    simp only [Option.some.injEq] at h
    exact ⟨by simp [eqGuard_at_pointer], equal_of fun D => by simp [Op.equalIn, run_underlying hu, h]⟩
  · subst ry
    obtain ⟨B, _, rfl⟩ := rx
    simp only [Option.some.injEq] at h
    exact ⟨by simp [eqGuard_at_pointer], equal_of fun D => by simp [Op.equalIn, run_underlying hu, h]⟩
  · subst ry
    obtain ⟨B, o, rfl, _⟩ := rx
    simp only [Option.some.injEq] at h
    exact ⟨by simp [eqGuard_at_pointer], equal_of fun D => by simp [Op.equalIn, run_underlying hu, h]⟩
  · obtain ⟨a, cap, rfl, _, _, h3, _⟩ := rx
    obtain ⟨a', cap', rfl, _, _, h3', _⟩ := ry
    obtain ⟨rfl, _⟩ := h3 (by trivial)
    obtain ⟨rfl, _⟩ := h3' (by trivial)
    simp only [Option.some.injEq] at h
    exact ⟨by simp [eqGuard_at_slice], equal_of fun D => by simp [Op.equalIn, run_underlying hu, h]⟩
  · obtain ⟨a, cap, rfl, _, _, h3, _⟩ := rx
    obtain ⟨a', cap', rfl, _, _, _, _, h5', _⟩ := ry
    obtain ⟨rfl, _⟩ := h3 (by trivial)
    split at h
    · cases h
    rename_i hk
    simp only [Option.some.injEq] at h
    refine ⟨by simp [eqGuard_at_slice], ?_⟩
    cases a' with
    | none => obtain ⟨e1, e2, e3⟩ := h5' rfl; exact absurd (by simp [e1, e2, e3.resolve_left (by simp)]) hk
    | some A => exact equal_of fun D => by simp [Op.equalIn, run_underlying hu, h]
  · obtain ⟨a, cap, rfl, _, _, h3, _, h5, _⟩ := rx
    obtain ⟨a', cap', rfl, _, _, h3', h4', _⟩ := ry
    obtain ⟨rfl, _⟩ := h3' (by trivial)
    split at h
    · cases h
    rename_i hk
    simp only [Option.some.injEq] at h
    refine ⟨by simp [eqGuard_at_slice], ?_⟩
    cases a with
    | none => obtain ⟨e1, e2, e3⟩ := h5 rfl; exact absurd (by simp [e1, e2, e3.resolve_left (by simp)]) hk
    | some A => exact equal_of fun D => by simp [Op.equalIn, run_underlying hu, h]
  · obtain ⟨B, cap, _, rfl, _⟩ := rx
    obtain ⟨a', cap', rfl, _, _, h3', h4', _⟩ := ry
    obtain ⟨rfl, _⟩ := h3' (by trivial)
    simp only [Option.some.injEq] at h
    exact ⟨by simp [eqGuard_at_slice], equal_of fun D => by simp [Op.equalIn, run_underlying hu, h]⟩
  · obtain ⟨B, cap, _, rfl, _⟩ := ry
    obtain ⟨a', cap', rfl, _, _, h3', h4', _⟩ := rx
    obtain ⟨rfl, _⟩ := h3' (by trivial)
    simp only [Option.some.injEq] at h
    exact ⟨by simp [eqGuard_at_slice], equal_of fun D => by simp [Op.equalIn, run_underlying hu, h]⟩
  · subst rx; subst ry
    simp only [Option.some.injEq] at h
    exact ⟨by simp [eqGuard_at_map], equal_of fun D => by simp [Op.equalIn, run_underlying hu, h]⟩
  · subst ry
    obtain ⟨B, _, rfl⟩ := rx
    simp only [Option.some.injEq] at h
    exact ⟨by simp [eqGuard_at_map], equal_of fun D => by simp [Op.equalIn, run_underlying hu, h]⟩
  · subst rx
    obtain ⟨B, _, rfl⟩ := ry
    simp only [Option.some.injEq] at h
    exact ⟨by simp [eqGuard_at_map], equal_of fun D => by simp [Op.equalIn, run_underlying hu, h]⟩
  · subst rx; subst ry
    simp only [Option.some.injEq] at h
    exact ⟨by simp [eqGuard_at_nilFunc], equal_of fun D => by simp [Op.equalIn, run_underlying hu, h]⟩
  · subst ry
    obtain ⟨_, _, rfl, _⟩ := rx
    simp only [Option.some.injEq] at h
    exact ⟨by simp [eqGuard_at_func], equal_of fun D => by simp [Op.equalIn, run_underlying hu, h]⟩
  · subst rx
    obtain ⟨_, _, rfl, _⟩ := ry
    simp only [Option.some.injEq] at h
    exact ⟨by simp [eqGuard_at_nilFunc], equal_of fun D => by simp [Op.equalIn, run_underlying hu, h]⟩
  · subst rx; subst ry
    split at h
    · rename_i hc
      simp only [Option.some.injEq] at h
      refine ⟨?_, equal_of fun D => by simp [Op.equalIn, run_underlying hu, h]⟩
      cases x1 <;> cases x2 <;> simp [isConst] at hc <;> cases op <;> simp [eqGuard]
    · cases h
  · subst ry
    obtain ⟨_, rfl, _⟩ := rx
    simp only [Option.some.injEq] at h
    exact ⟨by simp [eqGuard_at_iface], equal_of fun D => by simp [Op.equalIn, run_underlying hu, h]⟩
  · subst rx
    obtain ⟨_, rfl, _⟩ := ry
    simp only [Option.some.injEq] at h
    exact ⟨by simp [eqGuard_nil_iface], equal_of fun D => by simp [Op.equalIn, run_underlying hu, h]⟩
  · obtain ⟨vs, rfl, rx⟩ := rx
    obtain ⟨us, rfl, ry⟩ := ry
    split at h
    · cases h
    · rename_i hc
      simp only [Bool.or_eq_true, not_or, Bool.not_eq_true] at hc
      refine ⟨run_eqGuard_agg w op t x1 x2 vs us hc.1, ?_⟩
      have hu2 : P.underlying t = some (.struct (P.fieldsOf t)) := by simp only [Program.fieldsOf, hu]
      show (Op.equalIn (9999 + 1) t _ _).run P w = _
      rw [run_equalIn_struct w 9999 t vs us hu2 hc.2]
      rw [fieldsOf_eq hu]
      exact eqFields_run 9998 _ h rx ry w
  · obtain ⟨vs, rfl, rx⟩ := rx
    obtain ⟨us, rfl, ry⟩ := ry
    split at h
    · cases h
    · rename_i hc
      split at h
      · rename_i hd
        exact ⟨run_eqGuard_agg w op t x1 x2 vs us (by simpa using hc), run_equalIn_arr (D := 9999) (by decide) t _ _ hu hd.1 hd.2.1 hd.2.2.1 hd.2.2.2 rx ry h w⟩
      · cases h
  · cases h
theorem eqV_bin {t : TypeId} {x y : V} {b c : Bool} (h : eqV P c t x y = some b) {v u : Value} (rx : Rep g x v) (ry : Rep g y u) :
    binOp .eql t v u = (do pure (.bool (← Op.equal t v u))) ∧ binOp .neq t v u = (do pure (.bool (!(← Op.equal t v u)))) := by
  unfold eqV at h
  split at h <;> first | (cases h; done) | skip
  all_goals
    simp only [Rep] at rx ry
    first
      | (subst rx; subst ry; exact ⟨rfl, rfl⟩)
      | (subst rx; obtain ⟨_, rfl, _⟩ := ry; exact ⟨rfl, rfl⟩)
      | (subst ry; obtain ⟨_, rfl, _⟩ := rx; exact ⟨rfl, rfl⟩)
      | (subst rx; obtain ⟨_, _, rfl⟩ := ry; exact ⟨rfl, rfl⟩)
      | (subst ry; obtain ⟨_, _, rfl⟩ := rx; exact ⟨rfl, rfl⟩)
      | (subst rx; obtain ⟨_, _, rfl, _⟩ := ry; exact ⟨rfl, rfl⟩)
      | (subst ry; obtain ⟨_, _, rfl, _⟩ := rx; exact ⟨rfl, rfl⟩)
      | (obtain ⟨_, _, rfl, _⟩ := rx; obtain ⟨_, _, rfl, _⟩ := ry; exact ⟨rfl, rfl⟩)
      | (obtain ⟨_, _, _, rfl, _⟩ := rx; obtain ⟨_, _, rfl, _⟩ := ry; exact ⟨rfl, rfl⟩)
      | (obtain ⟨_, _, rfl, _⟩ := rx; obtain ⟨_, _, _, rfl, _⟩ := ry; exact ⟨rfl, rfl⟩)
      | (obtain ⟨_, rfl, _⟩ := rx; obtain ⟨_, rfl, _⟩ := ry; exact ⟨rfl, rfl⟩)
theorem binV_run {op : BinOp} {t : TypeId} {x y z : V} {x1 x2 : Operand} (h : binV P op t (isConst x1 || isConst x2) x y = some z) {v u : Value} (rx : Rep g x v) (ry : Rep g y u) (w : World) :
    ∃ r, (do eqGuard op t x1 x2 v u; binOp op t v u : Sem Value).run P w = .ok r w ∧ Rep g z r := by
  unfold binV at h
  split at h
  · have := rep_int rx; have := rep_int ry; subst_vars
    exact shiftI_run (.inl rfl) h x1 x2 w
  · have := rep_int rx; have := rep_int ry; subst_vars
    exact shiftI_run (.inr rfl) h x1 x2 w
  · have := rep_int rx; have := rep_int ry; subst_vars
    split at h
    · rename_i hk; subst hk; exact arithI_run h x1 x2 w
    · cases h
  · have := rep_str rx; have := rep_str ry; subst_vars
    exact strOp_run h x1 x2 w
  · rename_i hno1 hno2 hno3 hno4 hno5
    simp only [Option.map_eq_some_iff] at h
    obtain ⟨b, hb, rfl⟩ := h
    obtain ⟨h1, h2⟩ := eqV_run hb rx ry .eql w
    refine ex_bool ?_
    obtain ⟨e1, _⟩ := eqV_bin hb rx ry
    simp [h1, e1, h2]
  · rename_i hno1 hno2 hno3 hno4 hno5
    simp only [Option.map_eq_some_iff] at h
    obtain ⟨b, hb, rfl⟩ := h
    obtain ⟨h1, h2⟩ := eqV_run hb rx ry .neq w
    refine ex_bool ?_
    obtain ⟨_, e1⟩ := eqV_bin hb rx ry
    simp [h1, e1, h2]
  · cases h
end Go.Ab
namespace Go.Ab
open Go.RowKit (Below)
variable {P : Program} {g : Gh} {n0 : Nat} {H : Heap} {w : World}
theorem unV_run {op : UnOp} {x y : V} (h : unV op x = some y) {v : Value} (r : Rep g x v) (w : World) : ∃ u, (Op.unary op v).run P w = .ok u w ∧ Rep g y u := by
 unfold unV at h
 split at h
 ·have := rep_int r; subst this
  simp only [Option.some.injEq] at h; subst h
  exact ex_int (by simp [Op.unary, Op.intArith])
 ·have := rep_bool r; subst this
  simp only [Option.some.injEq] at h; subst h
  exact ex_bool (by simp [Op.unary])
 ·cases h
theorem RepC.reps {cs : List V} {B o : Nat} (h : RepC g cs B o) (hI : Inv g n0 H w) :
  ∃ vs, RepL g cs vs ∧ (∀ c ∈ cs, V.one c = true) ∧ ∀ (j : Nat) (u : Value), vs[j]? = some u → w.cell? ⟨B, o + j, none⟩ = some u := by
 obtain ⟨B', o', vs, h1, h2, h3, h4, h5⟩ := readP_rep (H := H) (p := .rptr cs) (n := cs.length) (cs := cs) (by simp [readP]) hI (v := .pointer (some ⟨B, o, none⟩)) (by simp only [Rep]; exact ⟨B, o, rfl, h⟩)
 simp only [Value.pointer.injEq, Option.some.injEq, Addr.mk.injEq, and_true] at h1
 obtain ⟨rfl, rfl⟩ := h1
 exact ⟨vs, h2, h4, h5⟩
theorem bytes_rep (g : Gh) (s : List UInt8) : RepL g (cellsOfBytes s) (s.map fun b => .int .u8 b.toNat) := RepL.map _ _ (fun _ => by simp [Rep]) s
theorem sliceCells_rep {size : Nat} {x : V} {cs : List V} (h : sliceCells H size x = some cs) (hI : Inv g n0 H w) {v : Value} (r : Rep g x v) :
  ∃ vs, RepL g cs vs ∧ (∀ c ∈ cs, V.one c = true) ∧ ∃ n, (Builtin.lenOf v).run P w = .ok n w ∧ cs.length = n * size ∧ (Builtin.firstCells size n v).run P w = .ok vs.toArray w ∧
   lenO x = some n := by
 cases x with
 | row nl fl l n tok =>
  simp only [sliceCells] at h
  split at h
  ·rename_i hl
   simp only [Option.some.injEq] at h
   subst h
   simp only [Rep] at r
   obtain ⟨a, cap, rfl, h1, h2, h3, h4, h5, h6⟩ := r
   cases a with
   | none =>
    obtain ⟨rfl, _⟩ := h5 rfl
    refine ⟨[], RepL.nil g, by simp, n, by simp [Builtin.lenOf], by simpa using hl, by simp [Builtin.firstCells], rfl⟩
   | some A =>
    obtain ⟨s1, s2, _⟩ := h6 A rfl
    by_cases hcs : l = []
    ·subst hcs
     refine ⟨[], RepL.nil g, by simp, n, by simp [Builtin.lenOf], hl, ?_, rfl⟩
     exact run_firstCells_some (P := P) w size n A n cap [] hl (fun j u hu => by simp at hu)
    obtain ⟨B, o, sp⟩ := A
    simp only at s1 s2
    have s1 := s1 hcs
    subst s1
    obtain ⟨vs, e1, e2, e3⟩ := s2.reps hI
    refine ⟨vs, e1, e2, n, by simp [Builtin.lenOf], hl, ?_, rfl⟩
    exact run_firstCells_some (P := P) w size n ⟨B, o, none⟩ n cap vs (by rw [← e1.length]; exact hl) (fun j u hu => by rw [add_none]; exact e3 j u hu)
  ·cases h
 | slice a off len sz =>
  simp only [sliceCells] at h
  split at h
  ·rename_i hsz
   subst hsz
   have h' : readP H (.ptr a off) (len * sz) = some cs := by
    simp only [readP]
    exact h
   simp only [Rep] at r
   obtain ⟨B, cap, hmu, rfl, hc⟩ := r
   obtain ⟨B', o', vs, h1, h2, h3, h4, h5⟩ := readP_rep h' hI (v := .pointer (some ⟨B, off, none⟩)) (by simp only [Rep]; exact ⟨B, hmu, rfl⟩)
   simp only [Value.pointer.injEq, Option.some.injEq, Addr.mk.injEq, and_true] at h1
   obtain ⟨rfl, rfl⟩ := h1
   refine ⟨vs, h2, h4, len, by simp [Builtin.lenOf], h3, ?_, rfl⟩
   exact run_firstCells_some (P := P) w sz len ⟨B, off, none⟩ len cap vs (by rw [← h2.length]; exact h3) (fun j u hu => by rw [add_none]; exact h5 j u hu)
  ·cases h
 | str s =>
  simp only [sliceCells] at h
  by_cases hs : size = 1
  ·subst hs
   simp only [if_true, Option.some.injEq] at h
   subst h
   have := rep_str r
   subst this
   have hsz : (⟨s.toArray⟩ : ByteArray).size = s.length := by simp [ByteArray.size]
   refine ⟨_, bytes_rep g s, ?_, s.length, by simp [Builtin.lenOf, hsz], by simp [cellsOfBytes], ?_, rfl⟩
   ·intro c hc
    simp only [cellsOfBytes, List.mem_map] at hc
    obtain ⟨b, _, rfl⟩ := hc
    rfl
   ·have : (⟨s.toArray⟩ : ByteArray).extract 0 s.length = ⟨s.toArray⟩ := by
     apply ByteArray.ext
     simp [ByteArray.data_extract]
    simp [Builtin.firstCells, this]
  ·simp [hs] at h
 | _ => simp [sliceCells] at h
theorem bytesOfCells_run (f : Value → ByteArray → Sem (ForInStep ByteArray)) (hf : ∀ n r, f (.int .u8 n) r = pure (.yield (r.push (UInt8.ofNat n.toNat)))) :
  ∀ {cs : List V} {s : List UInt8} {vs : List Value}, bytesOfCells cs = some s → RepL g cs vs → ∀ (acc : ByteArray) (w : World),
  Sem.run P (forIn vs acc f) w = .ok ⟨acc.data ++ s.toArray⟩ w
 | [], s, vs, h, r, acc, w => by
  simp only [bytesOfCells, Option.some.injEq] at h
  subst h
  rw [RepL.nil_iff] at r
  subst r
  simp
 | c :: cs, s, [], h, r, acc, w => by simp [RepL] at r
 | c :: cs, s, v :: vs, h, r, acc, w => by
  rw [RepL.cons_iff] at r
  cases c with
  | int k n =>
   cases k with
   | u8 =>
    simp only [bytesOfCells, Option.map_eq_some_iff] at h
    obtain ⟨s', hs', rfl⟩ := h
    have := rep_int r.1
    subst this
    simp only [List.forIn_cons, Sem.run_bind, hf, Sem.run_pure, Result.andThen_ok]
    rw [bytesOfCells_run f hf hs' r.2]
    congr 1
    apply ByteArray.ext
    simp [ByteArray.push]
   | _ => simp [bytesOfCells] at h
  | _ => simp [bytesOfCells] at h
theorem run_bytesToString {x : V} {cs : List V} {s : List UInt8} (h : sliceCells H 1 x = some cs) (hb : bytesOfCells cs = some s) (hI : Inv g n0 H w)
  (hx : isSl x = true) {v : Value} (r : Rep g x v) :
  (Conv.bytesToString v).run P w = .ok (.string ⟨s.toArray⟩) w := by
 obtain ⟨vs, h1, h2, n, h3, h4, h5, h6⟩ := sliceCells_rep (P := P) h hI r
 have hv : ∃ a m c, v = .slice a m c := by
  cases x <;> simp [isSl] at hx
  ·simp only [Rep] at r; obtain ⟨a, c, rfl, _⟩ := r; exact ⟨_, _, _, rfl⟩
  ·simp only [Rep] at r; obtain ⟨B, c, _, rfl, _⟩ := r; exact ⟨_, _, _, rfl⟩
 obtain ⟨a, m, c, rfl⟩ := hv
 simp only [Builtin.lenOf, Sem.run_pure, Result.ok.injEq, and_true] at h3
 subst h3
 cases a with
 | none =>
  simp only [Builtin.firstCells, Sem.run_pure, Result.ok.injEq, and_true] at h5
  have : vs = [] := by have := congrArg Array.toList h5; simpa using this.symm
  subst this
  have hc0 := h1.length
  simp at hc0
  subst hc0
  simp only [bytesOfCells, Option.some.injEq] at hb
  subst hb
  rfl
 | some A =>
  simp only [Builtin.firstCells, Nat.mul_one] at h5
  simp only [Conv.bytesToString, Sem.run_bind, h5, Result.andThen_ok]
  rw [← Array.forIn_toList, show vs.toArray.toList = vs from rfl, bytesOfCells_run (P := P) _ (fun n r => rfl) hb h1 ByteArray.empty w]
  simp
theorem isSl_rep {x : V} {v : Value} (h : isSl x = true) (r : Rep g x v) : ∃ a m c, v = .slice a m c := by
 cases x <;> simp [isSl] at h
 ·simp only [Rep] at r; obtain ⟨a, c, rfl, _⟩ := r; exact ⟨_, _, _, rfl⟩
 ·simp only [Rep] at r; obtain ⟨B, c, _, rfl, _⟩ := r; exact ⟨_, _, _, rfl⟩
theorem convV_run {src dst : TypeId} {x y : V} {H' : Heap} (h : convV P H src dst x = some (y, H')) (hI : Inv g n0 H w) {v : Value} (r : Rep g x v) :
  ∃ g' w' u, (convert src dst v).run P w = .ok u w' ∧ Good n0 g w g' w' ∧ Inv g' n0 H' w' ∧ Rep g' y u := by
 unfold convV at h
 split at h
 ·rename_i d k _ n hs hd
  have := rep_int r; subst this
  simp only [Option.some.injEq, Prod.mk.injEq] at h
  obtain ⟨rfl, rfl⟩ := h
  exact ⟨g, w, _, by simp [convert, run_underlying hs, run_underlying hd, Conv.intToInt], Good.refl _ _ _, hI, Rep.int _ _⟩
 ·rename_i s hs hd
  have := rep_str r; subst this
  simp only [Option.some.injEq, Prod.mk.injEq] at h
  obtain ⟨rfl, rfl⟩ := h
  exact ⟨g, w, _, by simp [convert, run_underlying hs, run_underlying hd], Good.refl _ _ _, hI, Rep.str s⟩
 ·rename_i e s hs hd
  have := rep_str r; subst this
  split at h
  ·rename_i i he hb
   simp only [Option.some.injEq, Prod.mk.injEq] at h
   obtain ⟨rfl, rfl⟩ := h
   have hsz : (⟨s.toArray⟩ : ByteArray).size = s.length := by simp [ByteArray.size]
   have hrun := run_bytes_of_string (P := P) w src dst e ⟨s.toArray⟩ hs hd he
   have hcap := grownCap_ge w s.length 0 e
   rw [hsz] at hrun
   generalize grownCap w s.length 0 e = cap at hrun hcap
   generalize harr : bytesRow ⟨s.toArray⟩ cap = arr at hrun
   have hlen : s.length ≤ arr.size := by rw [← harr]; simp [bytesRow]
   have hI1 := hI.drew
   obtain ⟨k1, k2, k3⟩ := hI1.newBlk (.cells arr e (arr.size, arr.size + 1)) (.cells (cellsOfBytes s)) arr.size (by
    refine ⟨by simp [Gh.addB], fun o => hI1.noG (Nat.le_refl _) o, arr, e, _, World.alloc_heap_new _ _, by simpa [cellsOfBytes] using hlen, fun i x hx => ?_, fun i hi => by simp [cellsOfBytes] at hi; simp; omega, by simpa [Gh.addB, cellsOfBytes] using hlen, by simp [Gh.addB], fun i hi => by simp [Gh.addB] at hi; simp; omega⟩
    simp only [cellsOfBytes, List.getElem?_map, Option.map_eq_some_iff] at hx
    obtain ⟨b, hb', rfl⟩ := hx
    refine ⟨rfl, .int .u8 b.toNat, ?_, by simp [Rep]⟩
    rw [← harr]
    have hil : i < s.length := (List.getElem?_eq_some_iff.1 hb').1
    have he2 := (List.getElem?_eq_some_iff.1 hb').2
    simp [bytesRow, Array.getElem?_append, hil, he2])
   refine ⟨_, _, _, hrun, (Good.drew n0 g w).trans k2, k1, ?_⟩
   simp only [Rep]
   exact ⟨_, cap, k3, rfl, hcap, by simp [Gh.addB, ← harr, bytesRow]; omega⟩
  ·cases h
 ·rename_i e hs hd
  split at h
  ·rename_i he
   split at h
   ·rename_i hsl
    split at h
    ·rename_i cs hcs
     simp only [Option.map_eq_some_iff, Prod.mk.injEq] at h
     obtain ⟨s, hb, rfl, rfl⟩ := h
     have := run_bytesToString (P := P) hcs hb hI hsl r
     refine ⟨g, w, _, ?_, Good.refl _ _ _, hI, Rep.str s⟩
     obtain ⟨a, m, c, rfl⟩ := isSl_rep hsl r
     simp only [convert, Sem.run_bind, run_underlying hs, run_underlying hd, Result.andThen_ok, run_underlying he]
     exact this
    ·cases h
   ·cases h
  ·cases h
 ·cases h
def RepO (g : Gh) : Option V → Option Value → Prop
 | none, none => True
 | some x, some v => Rep g x v
 | _, _ => False
theorem bound_run {n d m : Nat} {x : V} {v : Value} (h : bound n d (some x) = some m) (r : Rep g x v) (c : BoundsCode) {N : Nat} (hN : n ≤ N) (w : World) :
  (Instr.sliceBound v N c).run P w = .ok m w ∧ m ≤ n := by
 cases x <;> simp only [bound] at h <;> first | (cases h; done) | skip
 rename_i k i
 have := rep_int r; subst this
 split at h
 ·rename_i hc
  simp only [Option.some.injEq] at h
  subst h
  refine ⟨?_, hc.2⟩
  simp only [Instr.sliceBound, asIntOf, Sem.run_bind, Sem.run_pure, Result.andThen_ok]
  rw [if_pos ⟨hc.1, by omega⟩]
  rfl
 ·cases h
theorem sliceBounds_run {sl : Bool} {len cap m b l : Nat} {lo hi mx : Option V} {lo' hi' mx' : Option Value} (hn : len ≤ cap)
  (hm : bound len len mx = some m) (hb : bound m (if mx.isSome then m else len) hi = some b) (hl : bound b 0 lo = some l) (hno : ¬ (mx.isSome ∧ hi.isNone))
  (rlo : RepO g lo lo') (rhi : RepO g hi hi') (rmx : RepO g mx mx') (w : World) :
  (Instr.sliceBounds sl len cap lo' hi' mx').run P w = .ok (l, b, if mx.isSome then m else cap) w ∧ m ≤ len ∧ b ≤ m ∧ l ≤ b := by
 have key : ∀ (M : Nat), Sem.run P (match lo' with
   | some v => do
    let l ← Instr.sliceBound v b (if mx'.isSome then .slice3C else .sliceB)
    pure (l, b, M)
   | none => do
    let l ← pure 0
    pure (l, b, M)) w = .ok (l, b, M) w ∧ l ≤ b := by
  intro M
  cases lo with
  | none =>
   cases lo' with
   | some _ => exact rlo.elim
   | none => simp only [bound, Option.some.injEq] at hl; subst hl; exact ⟨rfl, Nat.zero_le _⟩
  | some x =>
   cases lo' with
   | none => exact rlo.elim
   | some v =>
    obtain ⟨e1, e2⟩ := bound_run (P := P) hl rlo (if mx'.isSome then .slice3C else .sliceB) (Nat.le_refl _) w
    exact ⟨by simp only [Sem.run_bind, e1, Result.andThen_ok, Sem.run_pure], e2⟩
 cases mx with
 | none =>
  cases mx' with
  | some _ => exact rmx.elim
  | none =>
   simp only [bound, Option.some.injEq] at hm
   subst hm
   cases hi with
   | none =>
    cases hi' with
    | some _ => exact rhi.elim
    | none =>
     simp [bound] at hb
     subst hb
     refine ⟨?_, Nat.le_refl _, Nat.le_refl _, (key 0).2⟩
     simp only [Instr.sliceBounds, Sem.run_bind, Sem.run_pure, Result.andThen_ok]
     exact (key cap).1
   | some x =>
    cases hi' with
    | none => exact rhi.elim
    | some v =>
     obtain ⟨e1, e2⟩ := bound_run (P := P) hb rhi (if sl then .sliceAcap else .sliceAlen) hn w
     refine ⟨?_, Nat.le_refl _, e2, (key 0).2⟩
     simp only [Instr.sliceBounds, Sem.run_bind, Sem.run_pure, Result.andThen_ok, e1]
     exact (key cap).1
 | some y =>
  cases mx' with
  | none => exact rmx.elim
  | some u =>
   obtain ⟨e0, e0'⟩ := bound_run (P := P) hm rmx (if sl then .slice3Acap else .slice3Alen) hn w
   cases hi with
   | none => exact absurd ⟨rfl, rfl⟩ hno
   | some x =>
    cases hi' with
    | none => exact rhi.elim
    | some v =>
     obtain ⟨e1, e2⟩ := bound_run (P := P) hb rhi .slice3B (Nat.le_refl _) w
     refine ⟨?_, e0', e2, (key 0).2⟩
     simp only [Instr.sliceBounds, Sem.run_bind, Sem.run_pure, Result.andThen_ok, e0, e1]
     exact (key m).1
theorem run_underlying_slice {t e : TypeId} (h : elemOfSlice P t = some e) : P.underlying t = some (.slice e) := by
 unfold elemOfSlice at h
 cases hu : P.underlying t with
 | none => simp [hu] at h
 | some d => cases d <;> simp [hu] at h; subst h; rfl
theorem bound_self {n m : Nat} {x : Option V} (h : bound n n x = some m) : m ≤ n := by
 unfold bound at h
 split at h
 ·simp only [Option.some.injEq] at h; omega
 ·split at h
  ·simp only [Option.some.injEq] at h; omega
  ·cases h
 ·cases h
theorem sliceV_run {t : TypeId} {x y : V} {lo hi mx : Option V} (h : sliceV P t H x lo hi mx = some y) {v : Value} {lo' hi' mx' : Option Value} (r : Rep g x v)
  (rlo : RepO g lo lo') (rhi : RepO g hi hi') (rmx : RepO g mx mx') {n0 : Nat} {w0 : World} (hI : Inv g n0 H w0) (w : World) : ∃ u, (Instr.sliceAt t v lo' hi' mx').run P w = .ok u w ∧ Rep g y u := by
 unfold sliceV at h
 cases x with
 | str s =>
  simp only at h
  split at h
  ·rename_i hu
   have := rep_str r; subst this
   cases mx' with
   | some _ => exact rmx.elim
   | none =>
    split at h
    ·rename_i b hb
     split at h
     ·rename_i a ha
      simp only [Option.some.injEq] at h
      subst h
      have hsz : (⟨s.toArray⟩ : ByteArray).size = s.length := by simp [ByteArray.size]
      obtain ⟨e1, e2, e3, e4⟩ := sliceBounds_run (P := P) (g := g) (sl := false) (len := s.length) (cap := s.length) (m := s.length) (mx := none) (mx' := none) (Nat.le_refl _) rfl (by simpa using hb) ha (by simp) rlo rhi trivial w
      refine ⟨.string ((⟨s.toArray⟩ : ByteArray).extract a b), ?_, ?_⟩
      ·simp only [Instr.sliceAt, Instr.slice, Sem.run_bind, run_underlying hu, Result.andThen_ok, hsz, Option.isSome_none, Bool.false_eq_true, if_false, Sem.run_pure]
       rw [e1]
       simp
      ·simp only [Rep]
       congr 1
       apply ByteArray.ext
       simp [ByteArray.data_extract, List.extract_eq_take_drop, List.drop_take]
     ·cases h
    ·cases h
  ·cases h
 | row nl fl cs n tok =>
  simp only at h
  cases he : elemOfSlice P t with
  | none => simp [he] at h
  | some e =>
   simp only [he] at h
   cases hs : szO P e with
   | none => simp [hs] at h
   | some sz =>
    simp only [hs] at h
    split at h
    ·rename_i hl
     split at h
     ·rename_i m hm
      split at h
      ·rename_i b hb
       split at h
       ·rename_i a ha
        split at h
        ·cases h
        ·rename_i hno
         simp only [Option.some.injEq] at h
         subst h
         simp only [Rep] at r
         obtain ⟨A, cap, rfl, h1, h2, h3, h4, h5, h6⟩ := r
         obtain ⟨e1, e2, e3, e4⟩ := sliceBounds_run (P := P) (sl := true) h1 hm hb ha hno rlo rhi rmx w
         have hM : b ≤ (if mx.isSome then m else cap) := by split <;> omega
         have hMs : mx.isSome = true → (if mx.isSome then m else cap) = m := fun hx => by rw [if_pos hx]
         have hMn : mx = none → (if mx.isSome then m else cap) = cap := fun hx => by rw [hx]; rfl
         have hM0 : cap = 0 → (if mx.isSome then m else cap) = 0 := fun hx => by split <;> omega
         generalize (if mx.isSome = true then m else cap) = M at e1 hM hMs hMn hM0
         have hu := run_underlying_slice he
         refine ⟨.slice (if M = a then A else A.map (·.add (a * sz))) (b - a) (M - a), ?_, ?_⟩
         ·simp only [Instr.sliceAt, Instr.slice, Sem.run_bind, run_underlying hu, Result.andThen_ok, e1, run_szO hs, Sem.run_pure]
         ·simp only [Rep]
          refine ⟨_, _, rfl, by omega, ?_, ?_, ?_, ?_, ?_⟩
          ·intro hf
           simp only [Bool.or_eq_true, Bool.and_eq_true, beq_iff_eq, Option.isNone_iff_eq_none] at hf
           rcases hf with ⟨⟨hx, rfl⟩, _⟩ | ⟨⟨rfl, hfl⟩, rfl⟩
           ·rw [hMs hx]
           ·have := h2 hfl; rw [hMn rfl]; omega
          ·intro hnl
           obtain ⟨rfl, hc0⟩ := h3 hnl
           have := hM0 hc0
           subst this
           simp
          ·intro hA
           have hAn : A = none := by
            cases A with
            | none => rfl
            | some A => by_cases hma : M = a <;> simp [hma] at hA
           have := hM0 (h4 hAn)
           omega
          ·intro hA
           have hAn : A = none := by
            cases A with
            | none => rfl
            | some A => by_cases hma : M = a <;> simp [hma] at hA
           obtain ⟨hcs, htok, hnf⟩ := h5 hAn
           subst hcs; subst htok
           refine ⟨by simp, by simp, ?_⟩
           rcases hnf with hnf | hnf
           ·exact .inl hnf
           ·cases nl with
            | true => exact .inl rfl
            | false => subst hnf; right; simp
          ·intro A' hA'
           cases A with
           | none => by_cases hma : M = a <;> simp [hma] at hA'
           | some A =>
            obtain ⟨s1, s2, s3⟩ := h6 A rfl
            by_cases hcs : cs = []
            ·subst hcs
             refine ⟨by simp, by simp [RepC], fun k hk => ?_⟩
             split at hk
             ·rename_i hc
              obtain ⟨hc1, hc2, hc3⟩ := hc
              obtain ⟨t', t1, hz | ⟨hsp, t2, t3, t4⟩⟩ := s3 k hk
              ·exact ⟨t', t1, .inl hz⟩
              ·have hmn : mx = none := by simpa using hc1
               have hMc := hMn hmn
               obtain ⟨B, o, sp⟩ := A
               simp only at hsp
               subst hsp
               refine ⟨t', t1, .inr ?_⟩
               by_cases hma : M = a
               ·rw [if_pos hma] at hA'
                simp only [Option.some.injEq] at hA'
                subst hA'
                exact ⟨rfl, t2, by rw [t3]; simp, by omega⟩
               ·rw [if_neg hma] at hA'
                simp only [Option.map_some, Option.some.injEq, add_none] at hA'
                subst hA'
                exact ⟨rfl, t2, by rw [t3, hc3]; simp, by omega⟩
             ·cases hk
            obtain ⟨B, o, sp⟩ := A
            simp only at s1 s2 s3
            have s1 := s1 hcs
            subst s1
            by_cases hma : M = a
            ·rw [if_pos hma] at hA'
             simp only [Option.some.injEq] at hA'
             subst hA'
             have hba : b = a := by omega
             refine ⟨fun _ => rfl, ?_, ?_⟩
             ·rw [List.drop_eq_nil_of_le (by rw [hba]; simp; omega)]
              simp [RepC]
             ·intro k hk
              split at hk
              ·rename_i hc
               obtain ⟨hc1, hc2, hc3⟩ := hc
               obtain ⟨t', t1, hz | ⟨_, t2, t3, t4⟩⟩ := s3 k hk
               ·exact ⟨t', t1, .inl hz⟩
               have hmn : mx = none := by simpa using hc1
               have hMc := hMn hmn
               have hn0 : n = 0 := by omega
               rw [hn0, Nat.zero_mul] at hl
               have hcs : cs = [] := List.eq_nil_of_length_eq_zero hl
               refine ⟨t', t1, .inr ⟨rfl, t2, ?_, ?_⟩⟩
               ·rw [t3, hcs]; simp
               ·omega
              ·cases hk
            ·rw [if_neg hma] at hA'
             simp only [Option.map_some, Option.some.injEq, add_none] at hA'
             subst hA'
             refine ⟨fun _ => rfl, (s2.take _).drop _, ?_⟩
             intro k hk
             split at hk
             ·rename_i hc
              obtain ⟨hc1, hc2, hc3⟩ := hc
              obtain ⟨t', t1, hz | ⟨_, t2, t3, t4⟩⟩ := s3 k hk
              ·exact ⟨t', t1, .inl hz⟩
              have hmn : mx = none := by simpa using hc1
              have hMc := hMn hmn
              refine ⟨t', t1, .inr ⟨rfl, t2, ?_, by omega⟩⟩
              rw [t3, hc3, hc2]
              simp [List.length_take, hl]
             ·cases hk
       ·cases h
      ·cases h
     ·cases h
    ·cases h
 | slice a off len sz =>
  simp only at h
  cases he : elemOfSlice P t with
  | none => simp [he] at h
  | some e =>
   simp only [he] at h
   split at h
   ·rename_i hs
    split at h
    ·rename_i m hm
     split at h
     ·rename_i b hb
      split at h
      ·rename_i l ha
       split at h
       ·cases h
       ·rename_i hno
        simp only [Option.some.injEq] at h
        subst h
        simp only [not_or] at hno
        simp only [Rep] at r
        obtain ⟨B, cap, hmu, rfl, hc, hcp⟩ := r
        obtain ⟨e1, e2, e3, e4⟩ := sliceBounds_run (P := P) (sl := true) hc hm hb ha hno.1 rlo rhi rmx w
        have hM : m ≤ (if mx.isSome then m else cap) := by split <;> omega
        have hu := run_underlying_slice he
        refine ⟨.slice (some ⟨B, off + l * sz, none⟩) (b - l) ((if mx.isSome then m else cap) - l), ?_, ?_⟩
        ·simp only [Instr.sliceAt, Instr.slice, Sem.run_bind, run_underlying hu, Result.andThen_ok, e1, run_szO hs, Sem.run_pure]
         rw [if_neg (by have := hno.2; omega)]
         simp [add_none]
        ·simp only [Rep]
         refine ⟨B, _, hmu, rfl, by omega, ?_⟩
         have hMc : (if mx.isSome then m else cap) ≤ cap := by
          split
          ·rename_i hx
           exact Nat.le_trans (bound_self hm) hc
          ·exact Nat.le_refl _
         generalize (if mx.isSome then m else cap) = M at hMc hM
         have := Nat.mul_le_mul_right sz (show l + (M - l) ≤ cap by omega)
         rw [Nat.add_mul] at this
         omega
      ·cases h
     ·cases h
    ·cases h
   ·cases h
 | ptr a off =>
  simp only at h
  split at h
  ·rename_i n e harr
   split at h
   ·rename_i sz hs
    split at h
    ·rename_i m hm
     split at h
     ·rename_i b hb
      split at h
      ·rename_i l ha
       split at h
       ·rename_i cs hbl
        split at h
        ·cases h
        ·rename_i hno
         simp only [Option.some.injEq] at h
         subst h
         simp only [not_or] at hno
         simp only [Rep] at r
         obtain ⟨B, hmu, rfl⟩ := r
         obtain ⟨e1, e2, e3, e4⟩ := sliceBounds_run (P := P) (sl := false) (Nat.le_refl n) hm hb ha hno.1.1 rlo rhi rmx w
         have hM : m = (if mx.isSome then m else n) := by
          split
          ·rfl
          ·rename_i hx
           cases mx with
           | none => simp [bound] at hm; exact hm.symm
           | some _ => simp at hx
         rw [← hM] at e1
         refine ⟨.slice (some ⟨B, off + l * sz, none⟩) (b - l) (m - l), ?_, ?_⟩
         ·cases hu : P.underlying t with
          | none => simp [hu] at harr
          | some d =>
           cases d <;> simp only [hu] at harr <;> first | (cases harr; done) | skip
           ·rename_i ar
            cases hu2 : P.underlying ar with
            | none => simp [hu2] at harr
            | some d2 =>
             cases d2 <;> simp only [hu2] at harr <;> first | (cases harr; done) | skip
             simp only [Option.some.injEq, Prod.mk.injEq] at harr
             obtain ⟨rfl, rfl⟩ := harr
             simp only [Instr.sliceAt, Instr.slice, Sem.run_bind, run_underlying hu, run_underlying hu2, Result.andThen_ok, asAddr, e1, run_szO hs, Sem.run_pure]
             rw [if_neg hno.1.2]
             simp [add_none]
           ·simp only [Option.some.injEq, Prod.mk.injEq] at harr
            obtain ⟨rfl, rfl⟩ := harr
            simp only [Instr.sliceAt, Sem.run_bind, run_underlying hu, Result.andThen_ok, Instr.sureAddr, e1, run_szO hs, Sem.run_pure]
            rw [if_neg hno.1.2]
            simp [add_none]
         ·simp only [Rep]
          refine ⟨B, _, hmu, rfl, by omega, ?_⟩
          obtain ⟨B', hmu', _, hrel⟩ := hI.blk a _ hbl
          obtain ⟨_, _, _, _, _, _, _, _, _, h7, _⟩ := hrel
          have hmn : m ≤ n := bound_self hm
          have := Nat.mul_le_mul_right sz (show l + (m - l) ≤ n by omega)
          rw [Nat.add_mul] at this
          have := hno.2
          omega
       ·cases h
      ·cases h
     ·cases h
    ·cases h
   ·cases h
  ·cases h
 | _ => simp at h
end Go.Ab
