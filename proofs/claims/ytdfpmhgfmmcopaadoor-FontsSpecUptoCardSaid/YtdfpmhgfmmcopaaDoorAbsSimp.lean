/- What simp unfolds while it walks through code. -/
import Derived.Test.YtdfpmhgfmmcopaaDoorAbsRow
set_option linter.unusedVariables false
set_option linter.unusedSimpArgs false
set_option linter.unusedSectionVars false
set_option linter.deprecated false
namespace Go.Ab
theorem prOk_of {P : Program} (h1 : P.funcs.toList.all (fun fn => fn.name != "runtime.NumGoroutine") = true) (h2 : P.follows .mixedOrders = true) : PrOk P :=
  ⟨fun f fn hf => by
    have := List.all_eq_true.1 h1 fn (by simpa using Array.mem_of_getElem? hf)
    simpa using this, h2⟩
section
variable (c : Cfg)
@[simp] theorem evT_tab (n : Nat) (f : Nat → V) (i : Nat) : evT c (tab n f) (.tmp i) = if i < n then f i else .undef := tab_getD n f i
@[simp] theorem evT_const (t : List V) (v : Value) : evT c t (.const v) = ofVal v := rfl
@[simp] theorem evT_func (t : List V) (f : FuncId) : evT c t (.func f) = .func (.func f) [] [] := rfl
@[simp] theorem evT_global (t : List V) (g : Nat) : evT c t (.global g) = match c.glob g with | some cs => .rptr cs | none => .undef := rfl
@[simp] theorem putT_tab (n : Nat) (f : Nat → V) (i : Nat) (v : V) : putT (tab n f) (some i) v = tab n (upd f i v) := tab_set n f i v
@[simp] theorem putT_none (t : List V) (v : V) : putT t none v = t := rfl
@[simp] theorem ofVal_bool (b : Bool) : ofVal (.bool b) = .bool b := rfl
@[simp] theorem ofVal_int (k : IntKind) (n : Int) : ofVal (.int k n) = .int k n := rfl
@[simp] theorem ofVal_str (s : ByteArray) : ofVal (.string s) = .str s.data.toList := rfl
@[simp] theorem ofVal_nilslice : ofVal (.slice none 0 0) = .row true true [] 0 none := rfl
@[simp] theorem ofVal_nilfunc : ofVal .nilFunc = .nilfunc := rfl
@[simp] theorem ofVal_niliface : ofVal .nilIface = .niliface := rfl
@[simp] theorem ofVal_nilptr : ofVal (.pointer none) = .nilptr := rfl
@[simp] theorem ofVal_nilmap : ofVal (.map none) = .nilmap := rfl
end
theorem some_if {α : Type} {p : Prop} [Decidable p] {a : α} {b : Option α} (h : p) : (if p then some a else b) = some a := if_pos h
theorem if_t {α : Type} {p : Prop} [Decidable p] {a b : α} (h : p) : (if p then a else b) = a := if_pos h
theorem if_f {α : Type} {p : Prop} [Decidable p] {a b : α} (h : ¬ p) : (if p then a else b) = b := if_neg h
theorem map_some_if {α β : Type} {p : Prop} [Decidable p] {a : α} {g : α → β} : (if p then some a else none).map g = if p then some (g a) else none := by split <;> rfl
theorem wrap64 {n : Int} (h : -9223372036854775808 ≤ n ∧ n ≤ 9223372036854775807) : IntKind.i64.wrap n = n := IntWalk.i64_in n h
theorem R_eq {α : Type} {E : α → List V} (a b : Bool) (l : List α) (tok : Option Nat) : V.row a b (rows E l) l.length tok = R (a, b, tok) E l := rfl
theorem R_nil {α : Type} (E : α → List V) (a b : Bool) (tok : Option Nat) : V.row a b [] 0 tok = R (a, b, tok) E [] := rfl
attribute [simp] tab_set bodF fnLike
section
@[simp] theorem one_bool (b : Bool) : V.one (.bool b) = true := rfl
@[simp] theorem one_int (k : IntKind) (n : Int) : V.one (.int k n) = true := rfl
@[simp] theorem one_str (s : List UInt8) : V.one (.str s) = true := rfl
@[simp] theorem one_row (a b : Bool) (cs : List V) (n : Nat) (k : Option Nat) : V.one (.row a b cs n k) = true := rfl
@[simp] theorem one_ptr (a b : Nat) : V.one (.ptr a b) = true := rfl
@[simp] theorem one_nilptr : V.one .nilptr = true := rfl
@[simp] theorem one_slice (a b c d : Nat) : V.one (.slice a b c d) = true := rfl
@[simp] theorem one_map (a : Nat) : V.one (.map a) = true := rfl
@[simp] theorem one_nilmap : V.one .nilmap = true := rfl
@[simp] theorem one_func (f : Fn) (a b : List V) : V.one (.func f a b) = true := rfl
@[simp] theorem one_nilfunc : V.one .nilfunc = true := rfl
@[simp] theorem one_yld (a : Nat) : V.one (.yld a) = true := rfl
@[simp] theorem one_iface (t : TypeId) (v : V) : V.one (.iface t v) = true := rfl
@[simp] theorem one_niliface : V.one .niliface = true := rfl
@[simp] theorem one_rptr (cs : List V) : V.one (.rptr cs) = true := rfl
@[simp] theorem cO_bool (b : Bool) : V.cellsO (.bool b) = some [.bool b] := rfl
@[simp] theorem cO_int (k : IntKind) (n : Int) : V.cellsO (.int k n) = some [.int k n] := rfl
@[simp] theorem cO_str (s : List UInt8) : V.cellsO (.str s) = some [.str s] := rfl
@[simp] theorem cO_row (a b : Bool) (cs : List V) (n : Nat) (k : Option Nat) : V.cellsO (.row a b cs n k) = some [.row a b cs n k] := rfl
@[simp] theorem cO_ptr (a b : Nat) : V.cellsO (.ptr a b) = some [.ptr a b] := rfl
@[simp] theorem cO_nilptr : V.cellsO .nilptr = some [.nilptr] := rfl
@[simp] theorem cO_slice (a b c d : Nat) : V.cellsO (.slice a b c d) = some [.slice a b c d] := rfl
@[simp] theorem cO_map (a : Nat) : V.cellsO (.map a) = some [.map a] := rfl
@[simp] theorem cO_nilmap : V.cellsO .nilmap = some [.nilmap] := rfl
@[simp] theorem cO_func (f : Fn) (a b : List V) : V.cellsO (.func f a b) = some [.func f a b] := rfl
@[simp] theorem cO_nilfunc : V.cellsO .nilfunc = some [.nilfunc] := rfl
@[simp] theorem cO_yld (a : Nat) : V.cellsO (.yld a) = some [.yld a] := rfl
@[simp] theorem cO_iface (t : TypeId) (v : V) : V.cellsO (.iface t v) = some [.iface t v] := rfl
@[simp] theorem cO_niliface : V.cellsO .niliface = some [.niliface] := rfl
@[simp] theorem cO_rptr (cs : List V) : V.cellsO (.rptr cs) = some [.rptr cs] := rfl
@[simp] theorem cO_agg (cs : List V) : V.cellsO (.agg cs) = if cs.all V.one = true then some cs else none := rfl
end
@[simp] theorem zip_nil' {β γ : Type} (l : List γ) : List.zip ([] : List β) l = [] := rfl
/-! Arithmetic -/
def iand (k : IntKind) (a b : Int) : Int := k.wrap (BitVec.ofInt k.bits a &&& BitVec.ofInt k.bits b).toNat
def ior (k : IntKind) (a b : Int) : Int := k.wrap (BitVec.ofInt k.bits a ||| BitVec.ofInt k.bits b).toNat
def ixor (k : IntKind) (a b : Int) : Int := k.wrap (BitVec.ofInt k.bits a ^^^ BitVec.ofInt k.bits b).toNat
def iandNot (k : IntKind) (a b : Int) : Int := k.wrap (BitVec.ofInt k.bits a &&& ~~~(BitVec.ofInt k.bits b)).toNat
def ishl (k : IntKind) (a b : Int) : Int := k.wrap (a * 2 ^ (min b.toNat k.bits))
def ishr (k : IntKind) (a b : Int) : Int := a.fdiv (2 ^ (min b.toNat k.bits))
section
variable (k : IntKind) (a b : Int)
@[simp] theorem arithI_add : arithI .add k a b = some (.int k (k.wrap (a + b))) := rfl
@[simp] theorem arithI_sub : arithI .sub k a b = some (.int k (k.wrap (a - b))) := rfl
@[simp] theorem arithI_mul : arithI .mul k a b = some (.int k (k.wrap (a * b))) := rfl
@[simp] theorem arithI_quo : arithI .quo k a b = if b = 0 then none else some (.int k (k.wrap (a.tdiv b))) := rfl
@[simp] theorem arithI_rem : arithI .rem k a b = if b = 0 then none else some (.int k (a.tmod b)) := rfl
@[simp] theorem arithI_and : arithI .and k a b = some (.int k (iand k a b)) := rfl
@[simp] theorem arithI_or : arithI .or k a b = some (.int k (ior k a b)) := rfl
@[simp] theorem arithI_xor : arithI .xor k a b = some (.int k (ixor k a b)) := rfl
@[simp] theorem arithI_andNot : arithI .andNot k a b = some (.int k (iandNot k a b)) := rfl
@[simp] theorem arithI_eql : arithI .eql k a b = some (.bool (a == b)) := rfl
@[simp] theorem arithI_neq : arithI .neq k a b = some (.bool (a != b)) := rfl
@[simp] theorem arithI_lss : arithI .lss k a b = some (.bool (a < b)) := rfl
@[simp] theorem arithI_leq : arithI .leq k a b = some (.bool (a ≤ b)) := rfl
@[simp] theorem arithI_gtr : arithI .gtr k a b = some (.bool (a > b)) := rfl
@[simp] theorem arithI_geq : arithI .geq k a b = some (.bool (a ≥ b)) := rfl
@[simp] theorem shiftI_shl : shiftI .shl k a b = if b < 0 then none else some (.int k (ishl k a b)) := rfl
@[simp] theorem shiftI_shr : shiftI .shr k a b = if b < 0 then none else some (.int k (ishr k a b)) := rfl
end
theorem iand_low (j : Nat) {x : Int} (hj : j ≤ 6) (hx : 0 ≤ x ∧ x ≤ 255) : iand .u8 x (2 ^ j - 1) = x % 2 ^ j := by
  obtain ⟨n, rfl⟩ := Int.eq_ofNat_of_zero_le hx.1
  have hn : n ≤ 255 := by omega
  have hb : (2 : Nat) ^ IntKind.u8.bits = 256 := by decide
  have h1 : (BitVec.ofInt IntKind.u8.bits (n : Int)).toNat = n := by
    rw [BitVec.ofInt_natCast, BitVec.toNat_ofNat, hb]
    exact Nat.mod_eq_of_lt (by omega)
  have hp : (2 : Nat) ^ j ≤ 64 := by
    have := Nat.pow_le_pow_right (n := 2) (by omega) hj
    simpa using this
  have hp1 : (1 : Nat) ≤ 2 ^ j := Nat.one_le_two_pow
  have e2 : ((2 : Int) ^ j - 1) = ((2 ^ j - 1 : Nat) : Int) := by
    rw [Int.natCast_sub hp1]; simp
  have h2 : (BitVec.ofInt IntKind.u8.bits ((2 : Int) ^ j - 1)).toNat = 2 ^ j - 1 := by
    rw [e2, BitVec.ofInt_natCast, BitVec.toNat_ofNat, hb]
    exact Nat.mod_eq_of_lt (by omega)
  unfold iand
  rw [BitVec.toNat_and, h1, h2, Nat.and_two_pow_sub_one_eq_mod]
  have hlt : n % 2 ^ j < 2 ^ j := Nat.mod_lt _ (by omega)
  have e3 : ((n % 2 ^ j : Nat) : Int) = (n : Int) % 2 ^ j := by simp
  rw [← e3]
  exact IntWalk.u8_in _ (by omega)
theorem iand_7 {x : Int} (hx : 0 ≤ x ∧ x ≤ 255) : iand .u8 x 7 = x % 8 := iand_low 3 (by omega) hx
theorem iand_15 {x : Int} (hx : 0 ≤ x ∧ x ≤ 255) : iand .u8 x 15 = x % 16 := iand_low 4 (by omega) hx
theorem iand_31 {x : Int} (hx : 0 ≤ x ∧ x ≤ 255) : iand .u8 x 31 = x % 32 := iand_low 5 (by omega) hx
theorem iand_63 {x : Int} (hx : 0 ≤ x ∧ x ≤ 255) : iand .u8 x 63 = x % 64 := iand_low 6 (by omega) hx
/-- two numbers without a bit in common -/
theorem ior_low (j : Nat) {x y : Int} (hj : j ≤ 20) (hx : 0 ≤ x ∧ x ≤ 8388608) (hm : x % 2 ^ j = 0) (hy : 0 ≤ y) (hy2 : y < 2 ^ j) : ior .i32 x y = x + y := by
  obtain ⟨n, rfl⟩ := Int.eq_ofNat_of_zero_le hx.1
  obtain ⟨m, rfl⟩ := Int.eq_ofNat_of_zero_le hy
  have hb : (2 : Nat) ^ IntKind.i32.bits = 4294967296 := by decide
  have hp : (2 : Nat) ^ j ≤ 1048576 := by
    have := Nat.pow_le_pow_right (n := 2) (by omega) hj
    simpa using this
  have hm' : n % 2 ^ j = 0 := by
    have : ((n % 2 ^ j : Nat) : Int) = 0 := by simpa using hm
    omega
  have hy' : m < 2 ^ j := by
    have : ((m : Nat) : Int) < ((2 ^ j : Nat) : Int) := by simpa using hy2
    omega
  have h1 : (BitVec.ofInt IntKind.i32.bits (n : Int)).toNat = n := by
    rw [BitVec.ofInt_natCast, BitVec.toNat_ofNat, hb]
    exact Nat.mod_eq_of_lt (by omega)
  have h2 : (BitVec.ofInt IntKind.i32.bits (m : Int)).toNat = m := by
    rw [BitVec.ofInt_natCast, BitVec.toNat_ofNat, hb]
    exact Nat.mod_eq_of_lt (by omega)
  have h3 : n = 2 ^ j * (n / 2 ^ j) := by have := Nat.div_add_mod n (2 ^ j); omega
  unfold ior
  rw [BitVec.toNat_or, h1, h2]
  have h4 : n ||| m = n + m := by
    have := Nat.two_pow_add_eq_or_of_lt hy' (n / 2 ^ j)
    rw [← h3] at this
    exact this.symm
  rw [h4]
  exact IntWalk.i32_in _ (by omega)
theorem ishl_6 {x : Int} (hx : 0 ≤ x ∧ x ≤ 131071) : ishl .i32 x 6 = x * 64 := by
  unfold ishl
  have : (2 : Int) ^ min (6 : Int).toNat IntKind.i32.bits = 64 := by decide
  rw [this]; exact IntWalk.i32_in _ (by omega)
theorem ishl_12 {x : Int} (hx : 0 ≤ x ∧ x ≤ 131071) : ishl .i32 x 12 = x * 4096 := by
  unfold ishl
  have : (2 : Int) ^ min (12 : Int).toNat IntKind.i32.bits = 4096 := by decide
  rw [this]; exact IntWalk.i32_in _ (by omega)
theorem ishl_18 {x : Int} (hx : 0 ≤ x ∧ x ≤ 8191) : ishl .i32 x 18 = x * 262144 := by
  unfold ishl
  have : (2 : Int) ^ min (18 : Int).toNat IntKind.i32.bits = 262144 := by decide
  rw [this]; exact IntWalk.i32_in _ (by omega)
theorem ior_6 {x y : Int} (h : (0 ≤ x ∧ x ≤ 8388608) ∧ x % 64 = 0 ∧ 0 ≤ y ∧ y < 64) : ior .i32 x y = x + y := ior_low 6 (by omega) h.1 h.2.1 h.2.2.1 h.2.2.2
theorem ior_12 {x y : Int} (h : (0 ≤ x ∧ x ≤ 8388608) ∧ x % 4096 = 0 ∧ 0 ≤ y ∧ y < 4096) : ior .i32 x y = x + y := ior_low 12 (by omega) h.1 h.2.1 h.2.2.1 h.2.2.2
theorem ior_18 {x y : Int} (h : (0 ≤ x ∧ x ≤ 8388608) ∧ x % 262144 = 0 ∧ 0 ≤ y ∧ y < 262144) : ior .i32 x y = x + y := ior_low 18 (by omega) h.1 h.2.1 h.2.2.1 h.2.2.2
def wantB (w : Bool) : V → Option Bool
  | .bool b => some (b == w)
  | .undef => none
  | _ => some false
@[simp] theorem wantB_bool (w b : Bool) : wantB w (.bool b) = some (b == w) := rfl
@[simp] theorem wantB_tuple (w : Bool) (l : List V) : wantB w (.tuple l) = some false := rfl
def wantG (ops : Array Oper) (n : Nat) (f : Nat → V) : Option (Nat × Bool) → Option Bool
  | none => some true
  | some (j, w) => match ops[j]? with
    | some g => match g.dst with
      | some d => if d < n then wantB w (f d) else none
      | none => none
    | none => none
@[simp] theorem wantG_none (ops : Array Oper) (n : Nat) (f : Nat → V) : wantG ops n f none = some true := rfl
@[simp] theorem wantG_some (ops : Array Oper) (n : Nat) (f : Nat → V) (j : Nat) (w : Bool) : wantG ops n f (some (j, w)) = match ops[j]? with
    | some g => match g.dst with
      | some d => if d < n then wantB w (f d) else none
      | none => none
    | none => none := rfl
@[simp] theorem wantedV_tab (ops : Array Oper) (o : Oper) (n : Nat) (f : Nat → V) : wantedV ops o (tab n f) = wantG ops n f o.guard := by
  unfold wantedV wantG
  cases o.guard with
  | none => rfl
  | some jw =>
    obtain ⟨j, w⟩ := jw
    simp only
    cases ops[j]? with
    | none => rfl
    | some g =>
      simp only
      cases g.dst with
      | none => rfl
      | some d =>
        simp only [tab_get]
        by_cases h : d < n
        · simp only [h, if_true]
          cases f d <;> rfl
        · simp only [h, if_false]
attribute [simp] opR binV cmpI unV intOf? fieldAddrV fieldV packV loadP readP isConst operZero codeOf leaveS packRes finM V.closed.closedL V.closed V.norm.normL V.norm
@[simp] theorem readRes_nil (P : Program) (h : Heap) (t : List V) : readRes P h t [] = some [] := rfl
@[simp] theorem readRes_tmp (P : Program) (h : Heap) (n : Nat) (f : Nat → V) (i : Nat) (r : List ResultVar) : readRes P h (tab n f) (.tmp i :: r) = (readRes P h (tab n f) r).map ((if i < n then f i else .undef) :: ·) := by
  simp only [readRes, tab_getD]
@[simp] theorem readRes_cell (P : Program) (h : Heap) (n : Nat) (f : Nat → V) (i : Nat) (ty : TypeId) (r : List ResultVar) : readRes P h (tab n f) (.cell i ty :: r) =
    match loadP P h ty (if i < n then f i else .undef), readRes P h (tab n f) r with
    | some v, some vs => some (v :: vs)
    | _, _ => none := by
  simp only [readRes, tab_getD]
  cases loadP P h ty (if i < n then f i else .undef) <;> cases readRes P h (tab n f) r <;> rfl
def outB (r : CRes) (o : Option (CRes × Heap)) : Bool → Option CRes
  | true => some r
  | false => outS o
@[simp] theorem outB_true (r : CRes) (o : Option (CRes × Heap)) : outB r o true = some r := rfl
@[simp] theorem outS_ret {v : V} {h : Heap} : outS (some (.ret v, h)) = outB (.ret v.norm) (some (.ret v, h)) v.closed := by
  cases hc : v.closed with
  | false => rfl
  | true => simp [outS, handV, V.closed.closedL, V.norm.normL, hc, outB]
@[simp] theorem outS_pan {v : V} {h : Heap} : outS (some (.panic v, h)) = outB (.panic v.norm) (some (.panic v, h)) v.closed := by
  cases hc : v.closed with
  | false => rfl
  | true => simp [outS, handV, V.closed.closedL, V.norm.normL, hc, outB]
end Go.Ab
