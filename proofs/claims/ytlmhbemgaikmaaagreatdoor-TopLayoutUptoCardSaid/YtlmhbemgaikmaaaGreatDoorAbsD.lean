/- A part of the proof. -/
import Derived.Test.YtlmhbemgaikmaaaGreatDoorAbsC
import Derived.Maps.RangeRun
set_option linter.unusedVariables false
set_option linter.unusedSimpArgs false
set_option linter.unusedSectionVars false
set_option linter.deprecated false
namespace Go.Ab
class EncC {α : Type} (E : α → List V) (sz : outParam Nat) : Prop where
 len : ∀ x, (E x).length = sz
 pos : 0 < sz
 one : ∀ x, (E x).all V.one = true
 closed : ∀ x, V.closed.closedL (E x) = true
 norm : ∀ x, V.norm.normL (E x) = E x
theorem closedL_append : ∀ a b : List V, V.closed.closedL (a ++ b) = (V.closed.closedL a && V.closed.closedL b)
 | [], b => by simp [V.closed.closedL]
 | x :: a, b => by simp [V.closed.closedL, closedL_append a b, Bool.and_assoc]
theorem normL_append : ∀ a b : List V, V.norm.normL (a ++ b) = V.norm.normL a ++ V.norm.normL b
 | [], b => by simp [V.norm.normL]
 | x :: a, b => by simp [V.norm.normL, normL_append a b]
def rows {α : Type} (E : α → List V) (l : List α) : List V := l.flatMap E
abbrev Fl := Bool × Bool × Option Nat
def R {α : Type} (fl : Fl) (E : α → List V) (l : List α) : V := .row fl.1 fl.2.1 (rows E l) l.length fl.2.2
abbrev fl0 : Fl := (false, false, none)
section
variable {α : Type} {E : α → List V} {sz : Nat}
@[simp] theorem rows_nil : rows E [] = [] := rfl
@[simp] theorem rows_cons (x : α) (l : List α) : rows E (x :: l) = E x ++ rows E l := by simp [rows]
@[simp] theorem rows_append (a b : List α) : rows E (a ++ b) = rows E a ++ rows E b := by simp [rows]
theorem rows_length [h : EncC E sz] : ∀ l : List α, (rows E l).length = l.length * sz
 | [] => by simp
 | x :: l => by simp [rows_length l, h.len, Nat.add_mul, Nat.add_comm]
theorem rows_drop [h : EncC E sz] : ∀ (i : Nat) (l : List α), (rows E l).drop (i * sz) = rows E (l.drop i)
 | 0, l => by simp
 | i + 1, [] => by simp
 | i + 1, x :: l => by
  rw [rows_cons, List.drop_succ_cons, ← rows_drop i l, Nat.add_mul, Nat.one_mul, Nat.add_comm, ← List.drop_drop]
  congr 1
  rw [List.drop_append_of_le_length (by rw [h.len]; exact Nat.le_refl _), List.drop_eq_nil_of_le (by rw [h.len]; exact Nat.le_refl _), List.nil_append]
theorem rows_take [h : EncC E sz] : ∀ (i : Nat) (l : List α), (rows E l).take (i * sz) = rows E (l.take i)
 | 0, l => by simp
 | i + 1, [] => by simp
 | i + 1, x :: l => by
  rw [rows_cons, List.take_succ_cons, rows_cons, ← rows_take i l, Nat.add_mul, Nat.one_mul, Nat.add_comm, List.take_append, h.len]
  congr 1
  ·exact List.take_of_length_le (by rw [h.len]; omega)
  ·congr 1; omega
@[simp] theorem rows_closed [h : EncC E sz] : ∀ l : List α, V.closed.closedL (rows E l) = true
 | [] => rfl
 | x :: l => by simp [closedL_append, h.closed, rows_closed l]
@[simp] theorem rows_norm [h : EncC E sz] : ∀ l : List α, V.norm.normL (rows E l) = rows E l
 | [] => rfl
 | x :: l => by simp [normL_append, h.norm, rows_norm l]
@[simp] theorem R_closed [h : EncC E sz] (fl : Fl) (l : List α) : (R fl E l).closed = true := by simp [R, V.closed]
@[simp] theorem R_norm [h : EncC E sz] (fl : Fl) (l : List α) : (R fl E l).norm = R fl0 E l := by simp [R, V.norm]
@[simp] theorem R_one (fl : Fl) (l : List α) : (R fl E l).one = true := rfl
@[simp] theorem R_cellsO (fl : Fl) (l : List α) : (R fl E l).cellsO = some [R fl E l] := rfl
end
def eI (x : Int) : List V := [.int .i64 x]
def eB (b : UInt8) : List V := [.int .u8 b.toNat]
def eBo (b : Bool) : List V := [.bool b]
def eS (s : List UInt8) : List V := [.str s]
def eR {α : Type} (E : α → List V) (l : List α) : List V := [R fl0 E l]
instance : EncC eI 1 := ⟨fun _ => rfl, by decide, fun _ => rfl, fun _ => rfl, fun _ => rfl⟩
instance : EncC eB 1 := ⟨fun _ => rfl, by decide, fun _ => rfl, fun _ => rfl, fun _ => rfl⟩
instance : EncC eBo 1 := ⟨fun _ => rfl, by decide, fun _ => rfl, fun _ => rfl, fun _ => rfl⟩
instance : EncC eS 1 := ⟨fun _ => rfl, by decide, fun _ => rfl, fun _ => rfl, fun _ => rfl⟩
instance {α : Type} {E : α → List V} {sz : Nat} [EncC E sz] : EncC (eR E) 1 :=
 ⟨fun _ => rfl, by decide, fun _ => by simp [eR], fun _ => by simp [eR, V.closed.closedL], fun _ => by simp [eR, V.norm.normL]⟩
def nth {α : Type} [Inhabited α] (l : List α) (i : Nat) : α := l.getD i default
section
variable {α : Type} [Inhabited α]
theorem nth_eq {l : List α} {i : Nat} (h : i < l.length) : nth l i = l[i] := by simp [nth, h]
theorem nth_some {l : List α} {i : Nat} (h : i < l.length) : l[i]? = some (nth l i) := by simp [nth, h]
theorem nth_drop {l : List α} {i : Nat} (h : i < l.length) : l.drop i = nth l i :: l.drop (i + 1) := by rw [nth_eq h]; exact List.drop_eq_getElem_cons h
theorem nth_take {l : List α} {i : Nat} (h : i < l.length) : l.take (i + 1) = l.take i ++ [nth l i] := by rw [nth_eq h, List.take_add_one, List.getElem?_eq_getElem h]; rfl
@[simp] theorem nth_zero (x : α) (l : List α) : nth (x :: l) 0 = x := rfl
@[simp] theorem nth_succ (x : α) (l : List α) (i : Nat) : nth (x :: l) (i + 1) = nth l i := by simp [nth]
theorem nth_mem {l : List α} {i : Nat} (h : i < l.length) : nth l i ∈ l := by rw [nth_eq h]; exact List.getElem_mem h
theorem nth_take_lt {l : List α} {i j : Nat} (h : i < j) : nth (l.take j) i = nth l i := by simp [nth, List.getElem?_take, h]
theorem nth_drop_add {l : List α} {i j : Nat} : nth (l.drop j) i = nth l (j + i) := by simp [nth, List.getElem?_drop]
theorem nth_append_left {a b : List α} {i : Nat} (h : i < a.length) : nth (a ++ b) i = nth a i := by simp [nth, List.getElem?_append_left h]
theorem nth_append_right {a b : List α} {i : Nat} (h : a.length ≤ i) : nth (a ++ b) i = nth b (i - a.length) := by simp [nth, List.getElem?_append_right h]
theorem ext_nth {a b : List α} (hl : a.length = b.length) (h : ∀ i, i < a.length → nth a i = nth b i) : a = b := by
 apply List.ext_getElem hl
 intro i h1 h2
 have := h i h1
 rwa [nth_eq h1, nth_eq h2] at this
end
section
variable {P : Program} {α : Type} {E : α → List V} {sz : Nat} {t e : TypeId} {h : Heap} {fl : Fl} {l : List α}
def esz (P : Program) (t : TypeId) : Option Nat := (elemOfSlice P t).bind (szO P)
def idxR [Inhabited α] (sz : Option Nat) (E : α → List V) (l : List α) (i : Int) : Option V := match sz with
 | some _ => if 0 ≤ i ∧ i.toNat < l.length then some (.rptr (E (nth l i.toNat) ++ rows E (l.drop (i.toNat + 1)))) else none
 | none => none
theorem indexAddr_R [Inhabited α] [hE : EncC E sz] (he : esz P t = some sz) (k : IntKind) (i : Int) :
  indexAddrV P t (R fl E l) (.int k i) = if 0 ≤ i ∧ i.toNat < l.length then some (.rptr (E (nth l i.toNat) ++ rows E (l.drop (i.toNat + 1)))) else none := by
 unfold esz at he
 obtain ⟨e, h1, h2⟩ := Option.bind_eq_some_iff.1 he
 unfold indexAddrV R
 simp only [intOf?, h1, h2]
 by_cases hi : 0 ≤ i ∧ i.toNat < l.length
 ·rw [if_pos hi, if_pos ⟨hi.1, hi.2, by rw [rows_length]; exact Nat.mul_lt_mul_of_pos_right hi.2 hE.pos⟩, rows_drop, nth_drop hi.2, rows_cons]
 ·rw [if_neg hi, if_neg fun hh => hi ⟨hh.1, hh.2.1⟩]
def lenD (n : Nat) : Option TypeDesc → Option V
 | some (.slice _) => some (.int .i64 n)
 | some (.array m _) => some (.int .i64 m)
 | _ => none
@[simp] theorem lenD_slice (n : Nat) (d : TypeId) : lenD n (some (.slice d)) = some (.int .i64 n) := rfl
@[simp] theorem lenV_R : lenV P h t (R fl E l) = lenD l.length (P.underlying t) := by
 unfold lenV R lenD
 cases P.underlying t with
 | none => rfl
 | some d => cases d <;> rfl
@[simp] theorem lenV_nil {a b : Bool} {tok : Option Nat} : lenV P h t (.row a b [] 0 tok) = lenD 0 (P.underlying t) := by
 unfold lenV lenD
 cases P.underlying t with
 | none => rfl
 | some d => cases d <;> rfl
def lenS (n : Nat) : Option TypeDesc → Option V
 | some .string => some (.int .i64 n)
 | _ => none
@[simp] theorem lenS_str (n : Nat) : lenS n (some .string) = some (.int .i64 n) := rfl
theorem lenV_str {s : List UInt8} (ht : P.underlying t = some .string) : lenV P h t (.str s) = some (.int .i64 s.length) := by
 unfold lenV; rw [ht]
theorem bound_int {n d : Nat} {k : IntKind} {i : Int} : bound n d (some (.int k i)) = if 0 ≤ i ∧ i.toNat ≤ n then some i.toNat else none := rfl
theorem bound_none {n d : Nat} : bound n d none = some d := rfl
theorem slice_R [hE : EncC E sz] (he : esz P t = some sz) {lo hi : Option V} {a b : Nat} (hb : bound l.length l.length hi = some b) (ha : bound b 0 lo = some a) :
  sliceV P t h (R fl E l) lo hi none = some (R (fl.1, fl.2.1 && b == l.length, if b = l.length ∧ a = 0 then fl.2.2 else none) E ((l.take b).drop a)) := by
 unfold esz at he
 obtain ⟨e, h1, h2⟩ := Option.bind_eq_some_iff.1 he
 have hab : b ≤ l.length := by
  cases hi with
  | none => simp only [bound, Option.some.injEq] at hb; omega
  | some v =>
   cases v <;> simp only [bound] at hb <;> (try (cases hb; done))
   split at hb <;> (try (cases hb; done))
   simp only [Option.some.injEq] at hb; omega
 have haa : a ≤ b := by
  cases lo with
  | none => simp only [bound, Option.some.injEq] at ha; omega
  | some v =>
   cases v <;> simp only [bound] at ha <;> (try (cases ha; done))
   split at ha <;> (try (cases ha; done))
   simp only [Option.some.injEq] at ha; omega
 unfold sliceV R
 simp only [h1, h2]
 rw [if_pos (by rw [rows_length])]
 simp only [bound_none, Option.isSome_none, Bool.false_eq_true, if_false, hb, ha, false_and, Option.isNone_none, Bool.false_and, Bool.true_and, Bool.false_or, true_and]
 rw [rows_take, rows_drop, List.length_drop, List.length_take, Nat.min_eq_left hab]
theorem slice3_R [hE : EncC E sz] (he : esz P t = some sz) {lo hi mx : Option V} {a b m : Nat} (hh : hi.isSome = true) (hxs : mx.isSome = true) (hm : bound l.length l.length mx = some m) (hb : bound m m hi = some b) (ha : bound b 0 lo = some a) :
  sliceV P t h (R fl E l) lo hi mx = some (R (fl.1, m == b && (fl.1 || fl.2.1 || !(rows E l).isEmpty || fl.2.2.isSome), none) E ((l.take b).drop a)) := by
 unfold esz at he
 obtain ⟨e, h1, h2⟩ := Option.bind_eq_some_iff.1 he
 have key : ∀ (n d : Nat) (o : Option V) (r : Nat), (o = none → d ≤ n) → bound n d o = some r → r ≤ n := by
  intro n d o r hd hb
  cases o with
  | none => simp only [bound, Option.some.injEq] at hb; have := hd rfl; omega
  | some v =>
   cases v <;> simp only [bound] at hb <;> (try (cases hb; done))
   split at hb <;> (try (cases hb; done))
   simp only [Option.some.injEq] at hb; omega
 have h3 : m ≤ l.length := key _ _ _ _ (fun _ => Nat.le_refl _) hm
 have h4 : b ≤ m := key _ _ _ _ (fun _ => Nat.le_refl _) hb
 unfold sliceV R
 simp only [h1, h2]
 rw [if_pos (by rw [rows_length])]
 have hn : hi.isNone = false := by cases hi <;> simp at hh ⊢
 simp only [hxs, hm, hb, ha, if_true, hn, Bool.false_eq_true, and_false, if_false, Bool.true_and]
 have hmn : mx.isNone = false := by cases mx <;> simp at hxs ⊢
 simp only [hmn, Bool.false_and, Bool.or_false, Bool.false_eq_true, false_and, if_false]
 rw [rows_take, rows_drop, List.length_drop, List.length_take, Nat.min_eq_left (by omega)]
theorem sliceCells_R [hE : EncC E sz] : sliceCells h sz (R fl E l) = some (rows E l) := by
 unfold sliceCells R; simp [rows_length]
theorem lenO_R : lenO (R fl E l) = some l.length := rfl
structure App (ts : List (Option Nat)) (sz : Nat) (fl : Fl) : Prop where
 ok : (fl.2.2 = none ∧ (fl.1 || fl.2.1) = true) ∨ ∃ k, fl.2.2 = some k ∧ ts[k]? = some (some sz)
def bumpT (ts : List (Option Nat)) (tok : Option Nat) (sz : Nat) : List (Option Nat) := (match tok with | some k => ts.set k none | none => ts) ++ [some sz]
def bump (h : Heap) (tok : Option Nat) (sz : Nat) : Heap := ⟨h.bs, bumpT h.ts tok sz⟩
@[simp] theorem bump_eq (h : Heap) (tok : Option Nat) (sz : Nat) : bump h tok sz = ⟨h.bs, bumpT h.ts tok sz⟩ := rfl
theorem bump_len (ts : List (Option Nat)) (tok : Option Nat) (sz : Nat) : (bumpT ts tok sz).length = ts.length + 1 := by unfold bumpT; cases tok <;> simp
theorem App.nil (ts : List (Option Nat)) (sz : Nat) (b : Bool) : App ts sz (true, b, none) := ⟨.inl ⟨rfl, rfl⟩⟩
theorem App.full (ts : List (Option Nat)) (sz : Nat) (b : Bool) : App ts sz (b, true, none) := ⟨.inl ⟨rfl, by simp⟩⟩
theorem App.new (ts : List (Option Nat)) (sz : Nat) (tok : Option Nat) : App (bumpT ts tok sz) sz (false, false, some ts.length) := by
 refine ⟨.inr ⟨_, rfl, ?_⟩⟩
 unfold bumpT
 cases tok <;> simp [List.getElem?_append]
theorem App.keep {ts : List (Option Nat)} {sz sz' : Nat} {fl : Fl} {tok : Option Nat} (ha : App ts sz fl) (hn : fl.2.2 = none ∨ fl.2.2 ≠ tok) : App (bumpT ts tok sz') sz fl := by
 rcases ha.ok with h1 | ⟨k, h1, h2⟩
 ·exact ⟨.inl h1⟩
 ·refine ⟨.inr ⟨k, h1, ?_⟩⟩
  have hk := (List.getElem?_eq_some_iff.1 h2).1
  rcases hn with hn | hn
  ·rw [h1] at hn; cases hn
  ·unfold bumpT
   cases tok with
   | none => simp [List.getElem?_append_left hk, h2]
   | some j =>
    have : j ≠ k := fun e => hn (by rw [h1, e])
    simp only
    rw [List.getElem?_append_left (by simpa using hk), List.getElem?_set_ne this, h2]
theorem App.lt {ts : List (Option Nat)} {sz : Nat} {fl : Fl} (ha : App ts sz fl) : fl.2.2 = none ∨ fl.2.2 ≠ some ts.length := by
 rcases ha.ok with h1 | ⟨k, h1, h2⟩
 ·exact .inl h1.1
 ·right; rw [h1]; intro e
  simp only [Option.some.injEq] at e
  have := (List.getElem?_eq_some_iff.1 h2).1
  omega
theorem closeV_R [hE : EncC E sz] (fl : Fl) (l : List α) : closeV (R fl E l) = R fl0 E l := by
 unfold closeV; rw [if_pos (R_closed fl l), R_norm]
def apz (P : Program) (ts : Array TypeId) : Option (Nat × Nat) :=
 match ts[0]?, ts[1]? with
 | some t0, some t1 => match elemOfSlice P t0, P.underlying t1 with
  | some e, some d => if isIntD d then none else match P.info? e, zeroCs P e with
   | some i, some _ => some (i.size, i.bytes)
   | _, _ => none
  | _, _ => none
 | _, _ => none
theorem appendV_apz {ts : Array TypeId} {sz by' : Nat} (ht : apz P ts = some (sz, by')) {s x : V} : ∃ e i z, appendV P h false ts s x = appendE P h e s (closeV x) ∧ P.info? e = some i ∧ zeroCs P e = some z ∧ i.size = sz ∧ i.bytes = by' := by
 unfold apz at ht
 split at ht <;> (try (cases ht; done))
 rename_i t0 t1 h0 h1
 split at ht <;> (try (cases ht; done))
 rename_i e d he hd
 split at ht <;> (try (cases ht; done))
 rename_i hnd
 split at ht <;> (try (cases ht; done))
 rename_i i z hi hz
 simp only [Option.some.injEq, Prod.mk.injEq] at ht
 refine ⟨e, i, z, ?_, hi, hz, ht.1, ht.2⟩
 unfold appendV
 simp only [h0, h1, he, hd]
 rw [if_neg hnd]
 simp only [Bool.false_eq_true, if_false]
theorem appendV_apzB {ts : Array TypeId} {sz by' : Nat} (ht : apz P ts = some (sz, by')) {s x : V} : ∃ e i z, appendV P h true ts s x = appendEB P h e s x ∧ P.info? e = some i ∧ zeroCs P e = some z ∧ i.size = sz ∧ i.bytes = by' := by
 unfold apz at ht
 split at ht <;> (try (cases ht; done))
 rename_i t0 t1 h0 h1
 split at ht <;> (try (cases ht; done))
 rename_i e d he hd
 split at ht <;> (try (cases ht; done))
 rename_i hnd
 split at ht <;> (try (cases ht; done))
 rename_i i z hi hz
 simp only [Option.some.injEq, Prod.mk.injEq] at ht
 refine ⟨e, i, z, ?_, hi, hz, ht.1, ht.2⟩
 unfold appendV
 simp only [h0, h1, he, hd]
 rw [if_neg hnd]
 simp only [if_true]
theorem append_R [hE : EncC E sz] {ts : Array TypeId} {by' : Nat} (ht : apz P ts = some (sz, by')) {fl2 : Fl} {m : List α} (hm : m ≠ []) (ha : App h.ts sz fl) (hl : l.length + m.length ≤ 4294967296) (hby : by' ≤ 16384) :
  appendV P h false ts (R fl E l) (R fl2 E m) = some (R (false, false, some h.ts.length) E (l ++ m), bump h fl.2.2 sz) := by
 obtain ⟨e, i, z, h1, hi, hz, hs, hb⟩ := appendV_apz (h := h) ht (s := R fl E l) (x := R fl2 E m)
 rw [h1, closeV_R]
 unfold appendE
 simp only [hi, hz, hs, sliceCells_R (h := h) (fl := fl0) (l := m) (E := E), lenO_R]
 have hm0 : m.length ≠ 0 := by simpa using hm
 have e1 : R fl E l = .row fl.1 fl.2.1 (rows E l) l.length fl.2.2 := rfl
 rw [e1]
 simp only
 rw [if_pos ⟨rows_length l, hE.pos, by simp [smallRow, hl, hb, hby], rows_length m⟩, if_neg hm0]
 rcases ha.ok with ⟨h2, h3⟩ | ⟨k, h2, h3⟩
 ·simp only [h2, h3, if_true]
  simp [R, bump, bumpT, h2]
 ·simp only [h2, h3, if_true]
  simp [R, bump, bumpT, h2]
theorem appendB_R [hE : EncC E sz] {ts : Array TypeId} {by' : Nat} (ht : apz P ts = some (sz, by')) {fl2 : Fl} {m : List α} (hm : m ≠ []) (ha : (fl.1 || fl.2.1) = true) (hl : l.length + m.length ≤ 4294967296) (hby : by' ≤ 16384) :
  appendV P h true ts (R fl E l) (R fl2 E m) = some (.slice h.bs.length 0 (l.length + m.length) sz, newB h (.cells (rows E (l ++ m)))) := by
 obtain ⟨e, i, z, h1, hi, hz, hs, hb⟩ := appendV_apzB (h := h) ht (s := R fl E l) (x := R fl2 E m)
 rw [h1]
 unfold appendEB
 simp only [hi, hz, hs, sliceCells_R (h := h) (fl := fl2) (l := m) (E := E), lenO_R]
 have hm0 : m.length ≠ 0 := by simpa using hm
 have e1 : R fl E l = .row fl.1 fl.2.1 (rows E l) l.length fl.2.2 := rfl
 rw [e1]
 simp only
 rw [if_pos ⟨rows_length l, hE.pos, by simp [smallRow, hl, hb, hby], rows_length m⟩, if_neg hm0, if_pos ha, rows_append]
theorem appendB_sl [hE : EncC E sz] {ts : Array TypeId} {by' : Nat} (ht : apz P ts = some (sz, by')) {fl2 : Fl} {m : List α} {a : Nat} (hm : m ≠ []) (hb : h.bs[a]? = some (.cells (rows E l))) (hl : l.length + m.length ≤ 4294967296) (hby : by' ≤ 16384) :
  appendV P h true ts (.slice a 0 l.length sz) (R fl2 E m) = some (.slice h.bs.length 0 (l.length + m.length) sz, newB { h with bs := h.bs.set a .dead } (.cells (rows E (l ++ m)))) := by
 obtain ⟨e, i, z, h1, hi, hz, hs, hb'⟩ := appendV_apzB (h := h) ht (s := .slice a 0 l.length sz) (x := R fl2 E m)
 rw [h1]
 unfold appendEB
 simp only [hi, hz, hs, sliceCells_R (h := h) (fl := fl2) (l := m) (E := E), lenO_R, hb]
 have hm0 : m.length ≠ 0 := by simpa using hm
 rw [if_pos ⟨trivial, trivial, rows_length l, hE.pos, by simp [smallRow, hl, hb', hby], rows_length m⟩, if_neg hm0, rows_append]
end
section
variable {P : Program} {α : Type} {E : α → List V} {sz : Nat}
theorem writeL_all : ∀ (vs a : List V), vs.length = a.length → writeL a 0 vs = vs := by
 have key : ∀ (vs a pre : List V), vs.length = a.length → writeL (pre ++ a) pre.length vs = pre ++ vs := by
  intro vs
  induction vs with
  | nil => intro a pre h; have : a = [] := List.eq_nil_of_length_eq_zero h.symm; subst this; rfl
  | cons v vs ih =>
   intro a pre h
   cases a with
   | nil => simp at h
   | cons x a =>
    simp only [List.length_cons, Nat.add_right_cancel_iff] at h
    simp only [writeL]
    have := ih a (pre ++ [v]) h
    simp only [List.length_append, List.length_cons, List.length_nil, List.append_assoc, List.cons_append, List.nil_append] at this
    rw [List.set_append_right _ _ (Nat.le_refl _), Nat.sub_self, List.set_cons_zero]
    simpa using this
 intro vs a h
 simpa using key vs a [] h
end
end Go.Ab
namespace Go.Ab
theorem prOk_of {P : Program} (h1 : P.funcs.toList.all (fun fn => fn.name != "runtime.NumGoroutine") = true) (h2 : P.follows .mixedOrders = true) : PrOk P :=
 ⟨fun f fn hf => by
  have := List.all_eq_true.1 h1 fn (by simpa using Array.mem_of_getElem? hf)
  simpa using this, h2⟩
section
variable (c : Cfg)
@[simp] theorem evT_tab (n : Nat) (f : Nat → V) (i : Nat) : evT c (tab n f) (.tmp i) = if i < n then f i else .undef := tab_getD n f i
@[simp] theorem evT_const (t : List V) (v : Value) : evT c t (.const v) = ofVal v := rfl
@[simp] theorem evT_func (t : List V) (f : FuncId) : evT c t (.func f) = .func (.func f) [] [] := rfl
@[simp] theorem evT_global (t : List V) (g : Nat) : evT c t (.global g) = match c.glob g with | some cs => .rptr cs | none => .undef := rfl
@[simp] theorem putT_tab (n : Nat) (f : Nat → V) (i : Nat) (v : V) : putT (tab n f) (some i) v = tab n (upd f i v) := tab_set n f i v
@[simp] theorem putT_none (t : List V) (v : V) : putT t none v = t := rfl
@[simp] theorem ofVal_bool (b : Bool) : ofVal (.bool b) = .bool b := rfl
@[simp] theorem ofVal_int (k : IntKind) (n : Int) : ofVal (.int k n) = .int k n := rfl
@[simp] theorem ofVal_str (s : ByteArray) : ofVal (.string s) = .str s.data.toList := rfl
@[simp] theorem ofVal_nilslice : ofVal (.slice none 0 0) = .row true true [] 0 none := rfl
@[simp] theorem ofVal_nilfunc : ofVal .nilFunc = .nilfunc := rfl
@[simp] theorem ofVal_niliface : ofVal .nilIface = .niliface := rfl
@[simp] theorem ofVal_nilptr : ofVal (.pointer none) = .nilptr := rfl
@[simp] theorem ofVal_nilmap : ofVal (.map none) = .nilmap := rfl
end
theorem some_if {α : Type} {p : Prop} [Decidable p] {a : α} {b : Option α} (h : p) : (if p then some a else b) = some a := if_pos h
theorem if_t {α : Type} {p : Prop} [Decidable p] {a b : α} (h : p) : (if p then a else b) = a := if_pos h
theorem if_f {α : Type} {p : Prop} [Decidable p] {a b : α} (h : ¬ p) : (if p then a else b) = b := if_neg h
theorem map_some_if {α β : Type} {p : Prop} [Decidable p] {a : α} {g : α → β} : (if p then some a else none).map g = if p then some (g a) else none := by split <;> rfl
theorem wrap64 {n : Int} (h : -9223372036854775808 ≤ n ∧ n ≤ 9223372036854775807) : IntKind.i64.wrap n = n := IntWalk.i64_in n h
attribute [simp] tab_set bodF fnLike
section
@[simp] theorem one_bool (b : Bool) : V.one (.bool b) = true := rfl
@[simp] theorem one_int (k : IntKind) (n : Int) : V.one (.int k n) = true := rfl
@[simp] theorem one_str (s : List UInt8) : V.one (.str s) = true := rfl
@[simp] theorem one_row (a b : Bool) (cs : List V) (n : Nat) (k : Option Nat) : V.one (.row a b cs n k) = true := rfl
@[simp] theorem one_ptr (a b : Nat) : V.one (.ptr a b) = true := rfl
@[simp] theorem one_nilptr : V.one .nilptr = true := rfl
@[simp] theorem one_slice (a b c d : Nat) : V.one (.slice a b c d) = true := rfl
@[simp] theorem one_map (a : Nat) : V.one (.map a) = true := rfl
@[simp] theorem one_nilmap : V.one .nilmap = true := rfl
@[simp] theorem one_func (f : Fn) (a b : List V) : V.one (.func f a b) = true := rfl
@[simp] theorem one_nilfunc : V.one .nilfunc = true := rfl
@[simp] theorem one_yld (a : Nat) : V.one (.yld a) = true := rfl
@[simp] theorem one_iface (t : TypeId) (v : V) : V.one (.iface t v) = true := rfl
@[simp] theorem one_niliface : V.one .niliface = true := rfl
@[simp] theorem one_rptr (cs : List V) : V.one (.rptr cs) = true := rfl
@[simp] theorem cO_bool (b : Bool) : V.cellsO (.bool b) = some [.bool b] := rfl
@[simp] theorem cO_int (k : IntKind) (n : Int) : V.cellsO (.int k n) = some [.int k n] := rfl
@[simp] theorem cO_str (s : List UInt8) : V.cellsO (.str s) = some [.str s] := rfl
@[simp] theorem cO_row (a b : Bool) (cs : List V) (n : Nat) (k : Option Nat) : V.cellsO (.row a b cs n k) = some [.row a b cs n k] := rfl
@[simp] theorem cO_ptr (a b : Nat) : V.cellsO (.ptr a b) = some [.ptr a b] := rfl
@[simp] theorem cO_nilptr : V.cellsO .nilptr = some [.nilptr] := rfl
@[simp] theorem cO_slice (a b c d : Nat) : V.cellsO (.slice a b c d) = some [.slice a b c d] := rfl
@[simp] theorem cO_map (a : Nat) : V.cellsO (.map a) = some [.map a] := rfl
@[simp] theorem cO_nilmap : V.cellsO .nilmap = some [.nilmap] := rfl
@[simp] theorem cO_func (f : Fn) (a b : List V) : V.cellsO (.func f a b) = some [.func f a b] := rfl
@[simp] theorem cO_nilfunc : V.cellsO .nilfunc = some [.nilfunc] := rfl
@[simp] theorem cO_yld (a : Nat) : V.cellsO (.yld a) = some [.yld a] := rfl
@[simp] theorem cO_iface (t : TypeId) (v : V) : V.cellsO (.iface t v) = some [.iface t v] := rfl
@[simp] theorem cO_niliface : V.cellsO .niliface = some [.niliface] := rfl
@[simp] theorem cO_rptr (cs : List V) : V.cellsO (.rptr cs) = some [.rptr cs] := rfl
@[simp] theorem cO_agg (cs : List V) : V.cellsO (.agg cs) = if cs.all V.one = true then some cs else none := rfl
end
@[simp] theorem zip_nil' {β γ : Type} (l : List γ) : List.zip ([] : List β) l = [] := rfl
def iand (k : IntKind) (a b : Int) : Int := k.wrap (BitVec.ofInt k.bits a &&& BitVec.ofInt k.bits b).toNat
def ior (k : IntKind) (a b : Int) : Int := k.wrap (BitVec.ofInt k.bits a ||| BitVec.ofInt k.bits b).toNat
def ixor (k : IntKind) (a b : Int) : Int := k.wrap (BitVec.ofInt k.bits a ^^^ BitVec.ofInt k.bits b).toNat
def iandNot (k : IntKind) (a b : Int) : Int := k.wrap (BitVec.ofInt k.bits a &&& ~~~(BitVec.ofInt k.bits b)).toNat
def ishl (k : IntKind) (a b : Int) : Int := k.wrap (a * 2 ^ (min b.toNat k.bits))
def ishr (k : IntKind) (a b : Int) : Int := a.fdiv (2 ^ (min b.toNat k.bits))
section
variable (k : IntKind) (a b : Int)
@[simp] theorem arithI_add : arithI .add k a b = some (.int k (k.wrap (a + b))) := rfl
@[simp] theorem arithI_sub : arithI .sub k a b = some (.int k (k.wrap (a - b))) := rfl
@[simp] theorem arithI_mul : arithI .mul k a b = some (.int k (k.wrap (a * b))) := rfl
@[simp] theorem arithI_quo : arithI .quo k a b = if b = 0 then none else some (.int k (k.wrap (a.tdiv b))) := rfl
@[simp] theorem arithI_rem : arithI .rem k a b = if b = 0 then none else some (.int k (a.tmod b)) := rfl
@[simp] theorem arithI_and : arithI .and k a b = some (.int k (iand k a b)) := rfl
@[simp] theorem arithI_or : arithI .or k a b = some (.int k (ior k a b)) := rfl
@[simp] theorem arithI_xor : arithI .xor k a b = some (.int k (ixor k a b)) := rfl
@[simp] theorem arithI_andNot : arithI .andNot k a b = some (.int k (iandNot k a b)) := rfl
@[simp] theorem arithI_eql : arithI .eql k a b = some (.bool (a == b)) := rfl
@[simp] theorem arithI_neq : arithI .neq k a b = some (.bool (a != b)) := rfl
@[simp] theorem arithI_lss : arithI .lss k a b = some (.bool (a < b)) := rfl
@[simp] theorem arithI_leq : arithI .leq k a b = some (.bool (a ≤ b)) := rfl
@[simp] theorem arithI_gtr : arithI .gtr k a b = some (.bool (a > b)) := rfl
@[simp] theorem arithI_geq : arithI .geq k a b = some (.bool (a ≥ b)) := rfl
@[simp] theorem shiftI_shl : shiftI .shl k a b = if b < 0 then none else some (.int k (ishl k a b)) := rfl
@[simp] theorem shiftI_shr : shiftI .shr k a b = if b < 0 then none else some (.int k (ishr k a b)) := rfl
end
theorem iand_low (j : Nat) {x : Int} (hj : j ≤ 6) (hx : 0 ≤ x ∧ x ≤ 255) : iand .u8 x (2 ^ j - 1) = x % 2 ^ j := by
 obtain ⟨n, rfl⟩ := Int.eq_ofNat_of_zero_le hx.1
 have hn : n ≤ 255 := by omega
 have hb : (2 : Nat) ^ IntKind.u8.bits = 256 := by decide
 have h1 : (BitVec.ofInt IntKind.u8.bits (n : Int)).toNat = n := by
  rw [BitVec.ofInt_natCast, BitVec.toNat_ofNat, hb]
  exact Nat.mod_eq_of_lt (by omega)
 have hp : (2 : Nat) ^ j ≤ 64 := by
  have := Nat.pow_le_pow_right (n := 2) (by omega) hj
  simpa using this
 have hp1 : (1 : Nat) ≤ 2 ^ j := Nat.one_le_two_pow
 have e2 : ((2 : Int) ^ j - 1) = ((2 ^ j - 1 : Nat) : Int) := by
  rw [Int.natCast_sub hp1]; simp
 have h2 : (BitVec.ofInt IntKind.u8.bits ((2 : Int) ^ j - 1)).toNat = 2 ^ j - 1 := by
  rw [e2, BitVec.ofInt_natCast, BitVec.toNat_ofNat, hb]
  exact Nat.mod_eq_of_lt (by omega)
 unfold iand
 rw [BitVec.toNat_and, h1, h2, Nat.and_two_pow_sub_one_eq_mod]
 have hlt : n % 2 ^ j < 2 ^ j := Nat.mod_lt _ (by omega)
 have e3 : ((n % 2 ^ j : Nat) : Int) = (n : Int) % 2 ^ j := by simp
 rw [← e3]
 exact IntWalk.u8_in _ (by omega)
theorem iand_7 {x : Int} (hx : 0 ≤ x ∧ x ≤ 255) : iand .u8 x 7 = x % 8 := iand_low 3 (by omega) hx
theorem iand_15 {x : Int} (hx : 0 ≤ x ∧ x ≤ 255) : iand .u8 x 15 = x % 16 := iand_low 4 (by omega) hx
theorem iand_31 {x : Int} (hx : 0 ≤ x ∧ x ≤ 255) : iand .u8 x 31 = x % 32 := iand_low 5 (by omega) hx
theorem iand_63 {x : Int} (hx : 0 ≤ x ∧ x ≤ 255) : iand .u8 x 63 = x % 64 := iand_low 6 (by omega) hx
theorem ior_low (j : Nat) {x y : Int} (hj : j ≤ 20) (hx : 0 ≤ x ∧ x ≤ 8388608) (hm : x % 2 ^ j = 0) (hy : 0 ≤ y) (hy2 : y < 2 ^ j) : ior .i32 x y = x + y := by
 obtain ⟨n, rfl⟩ := Int.eq_ofNat_of_zero_le hx.1
 obtain ⟨m, rfl⟩ := Int.eq_ofNat_of_zero_le hy
 have hb : (2 : Nat) ^ IntKind.i32.bits = 4294967296 := by decide
 have hp : (2 : Nat) ^ j ≤ 1048576 := by
  have := Nat.pow_le_pow_right (n := 2) (by omega) hj
  simpa using this
 have hm' : n % 2 ^ j = 0 := by
  have : ((n % 2 ^ j : Nat) : Int) = 0 := by simpa using hm
  omega
 have hy' : m < 2 ^ j := by
  have : ((m : Nat) : Int) < ((2 ^ j : Nat) : Int) := by simpa using hy2
  omega
 have h1 : (BitVec.ofInt IntKind.i32.bits (n : Int)).toNat = n := by
  rw [BitVec.ofInt_natCast, BitVec.toNat_ofNat, hb]
  exact Nat.mod_eq_of_lt (by omega)
 have h2 : (BitVec.ofInt IntKind.i32.bits (m : Int)).toNat = m := by
  rw [BitVec.ofInt_natCast, BitVec.toNat_ofNat, hb]
  exact Nat.mod_eq_of_lt (by omega)
 have h3 : n = 2 ^ j * (n / 2 ^ j) := by have := Nat.div_add_mod n (2 ^ j); omega
 unfold ior
 rw [BitVec.toNat_or, h1, h2]
 have h4 : n ||| m = n + m := by
  have := Nat.two_pow_add_eq_or_of_lt hy' (n / 2 ^ j)
  rw [← h3] at this
  exact this.symm
 rw [h4]
 exact IntWalk.i32_in _ (by omega)
theorem ishl_6 {x : Int} (hx : 0 ≤ x ∧ x ≤ 131071) : ishl .i32 x 6 = x * 64 := by
 unfold ishl
 have : (2 : Int) ^ min (6 : Int).toNat IntKind.i32.bits = 64 := by decide
 rw [this]; exact IntWalk.i32_in _ (by omega)
theorem ishl_12 {x : Int} (hx : 0 ≤ x ∧ x ≤ 131071) : ishl .i32 x 12 = x * 4096 := by
 unfold ishl
 have : (2 : Int) ^ min (12 : Int).toNat IntKind.i32.bits = 4096 := by decide
 rw [this]; exact IntWalk.i32_in _ (by omega)
theorem ishl_18 {x : Int} (hx : 0 ≤ x ∧ x ≤ 8191) : ishl .i32 x 18 = x * 262144 := by
 unfold ishl
 have : (2 : Int) ^ min (18 : Int).toNat IntKind.i32.bits = 262144 := by decide
 rw [this]; exact IntWalk.i32_in _ (by omega)
theorem ior_6 {x y : Int} (h : (0 ≤ x ∧ x ≤ 8388608) ∧ x % 64 = 0 ∧ 0 ≤ y ∧ y < 64) : ior .i32 x y = x + y := ior_low 6 (by omega) h.1 h.2.1 h.2.2.1 h.2.2.2
theorem ior_12 {x y : Int} (h : (0 ≤ x ∧ x ≤ 8388608) ∧ x % 4096 = 0 ∧ 0 ≤ y ∧ y < 4096) : ior .i32 x y = x + y := ior_low 12 (by omega) h.1 h.2.1 h.2.2.1 h.2.2.2
theorem ior_18 {x y : Int} (h : (0 ≤ x ∧ x ≤ 8388608) ∧ x % 262144 = 0 ∧ 0 ≤ y ∧ y < 262144) : ior .i32 x y = x + y := ior_low 18 (by omega) h.1 h.2.1 h.2.2.1 h.2.2.2
def wantB (w : Bool) : V → Option Bool
 | .bool b => some (b == w)
 | .undef => none
 | _ => some false
@[simp] theorem wantB_bool (w b : Bool) : wantB w (.bool b) = some (b == w) := rfl
@[simp] theorem wantB_tuple (w : Bool) (l : List V) : wantB w (.tuple l) = some false := rfl
def wantG (ops : Array Oper) (n : Nat) (f : Nat → V) : Option (Nat × Bool) → Option Bool
 | none => some true
 | some (j, w) => match ops[j]? with
  | some g => match g.dst with
   | some d => if d < n then wantB w (f d) else none
   | none => none
  | none => none
@[simp] theorem wantG_none (ops : Array Oper) (n : Nat) (f : Nat → V) : wantG ops n f none = some true := rfl
@[simp] theorem wantG_some (ops : Array Oper) (n : Nat) (f : Nat → V) (j : Nat) (w : Bool) : wantG ops n f (some (j, w)) = match ops[j]? with
  | some g => match g.dst with
   | some d => if d < n then wantB w (f d) else none
   | none => none
  | none => none := rfl
@[simp] theorem wantedV_tab (ops : Array Oper) (o : Oper) (n : Nat) (f : Nat → V) : wantedV ops o (tab n f) = wantG ops n f o.guard := by
 unfold wantedV wantG
 cases o.guard with
 | none => rfl
 | some jw =>
  obtain ⟨j, w⟩ := jw
  simp only
  cases ops[j]? with
  | none => rfl
  | some g =>
   simp only
   cases g.dst with
   | none => rfl
   | some d =>
    simp only [tab_get]
    by_cases h : d < n
    ·simp only [h, if_true]
     cases f d <;> rfl
    ·simp only [h, if_false]
attribute [simp] opR binV cmpI unV intOf? fieldAddrV fieldV packV loadP readP isConst operZero codeOf leaveS packRes finM V.closed.closedL V.closed V.norm.normL V.norm
@[simp] theorem readRes_nil (P : Program) (h : Heap) (t : List V) : readRes P h t [] = some [] := rfl
@[simp] theorem readRes_tmp (P : Program) (h : Heap) (n : Nat) (f : Nat → V) (i : Nat) (r : List ResultVar) : readRes P h (tab n f) (.tmp i :: r) = (readRes P h (tab n f) r).map ((if i < n then f i else .undef) :: ·) := by
 simp only [readRes, tab_getD]
@[simp] theorem readRes_cell (P : Program) (h : Heap) (n : Nat) (f : Nat → V) (i : Nat) (ty : TypeId) (r : List ResultVar) : readRes P h (tab n f) (.cell i ty :: r) =
  match loadP P h ty (if i < n then f i else .undef), readRes P h (tab n f) r with
  | some v, some vs => some (v :: vs)
  | _, _ => none := by
 simp only [readRes, tab_getD]
 cases loadP P h ty (if i < n then f i else .undef) <;> cases readRes P h (tab n f) r <;> rfl
def outB (r : CRes) (o : Option (CRes × Heap)) : Bool → Option CRes
 | true => some r
 | false => outS o
@[simp] theorem outB_true (r : CRes) (o : Option (CRes × Heap)) : outB r o true = some r := rfl
@[simp] theorem outS_ret {v : V} {h : Heap} : outS (some (.ret v, h)) = outB (.ret v.norm) (some (.ret v, h)) v.closed := by
 cases hc : v.closed with
 | false => rfl
 | true => simp [outS, handV, V.closed.closedL, V.norm.normL, hc, outB]
@[simp] theorem outS_pan {v : V} {h : Heap} : outS (some (.panic v, h)) = outB (.panic v.norm) (some (.panic v, h)) v.closed := by
 cases hc : v.closed with
 | false => rfl
 | true => simp [outS, handV, V.closed.closedL, V.norm.normL, hc, outB]
end Go.Ab
namespace Go.Ab
attribute [simp] some_if map_some_if wrap64 indexAddr_R wpc_t wpc_f ww_t ww_f if_t if_f
def slf (fl : Fl) (a b n : Nat) : Fl := (fl.1, fl.2.1 && b == n, if b = n ∧ a = 0 then fl.2.2 else none)
section
variable {P : Program} {α : Type} {E : α → List V} {sz : Nat} {t e : TypeId} {h : Heap} {fl : Fl} {l : List α} {k k' : IntKind} {a b : Int}
@[simp] theorem slice_nn [hE : EncC E sz] (he : esz P t = some sz) : sliceV P t h (R fl E l) none none none = some (R (slf fl 0 l.length l.length) E l) := by
 rw [slice_R he (hi := none) (lo := none) rfl rfl]; simp [slf]
@[simp] theorem slice_ns [hE : EncC E sz] (he : esz P t = some sz) : sliceV P t h (R fl E l) none (some (.int k b)) none = if 0 ≤ b ∧ b.toNat ≤ l.length then some (R (slf fl 0 b.toNat l.length) E (l.take b.toNat)) else none := by
 by_cases hb : 0 ≤ b ∧ b.toNat ≤ l.length
 ·rw [if_pos hb, slice_R he (b := b.toNat) (a := 0) (by rw [bound_int, if_pos hb]) rfl]; simp [slf]
 ·rw [if_neg hb]
  unfold esz at he
  obtain ⟨e, h1, h2⟩ := Option.bind_eq_some_iff.1 he
  unfold sliceV R
  simp only [h1, h2]
  rw [if_pos (by rw [rows_length])]
  simp only [bound_none, Option.isSome_none, Bool.false_eq_true, if_false, bound_int, if_neg hb]
@[simp] theorem slice_sn [hE : EncC E sz] (he : esz P t = some sz) : sliceV P t h (R fl E l) (some (.int k a)) none none = if 0 ≤ a ∧ a.toNat ≤ l.length then some (R (slf fl a.toNat l.length l.length) E (l.drop a.toNat)) else none := by
 by_cases ha : 0 ≤ a ∧ a.toNat ≤ l.length
 ·rw [if_pos ha, slice_R he (b := l.length) (a := a.toNat) rfl (by rw [bound_int, if_pos ha])]; simp [slf]
 ·rw [if_neg ha]
  unfold esz at he
  obtain ⟨e, h1, h2⟩ := Option.bind_eq_some_iff.1 he
  unfold sliceV R
  simp only [h1, h2]
  rw [if_pos (by rw [rows_length])]
  simp only [bound_none, Option.isSome_none, Bool.false_eq_true, if_false, bound_int, if_neg ha]
@[simp] theorem slice_ss [hE : EncC E sz] (he : esz P t = some sz) : sliceV P t h (R fl E l) (some (.int k a)) (some (.int k' b)) none = if (0 ≤ b ∧ b.toNat ≤ l.length) ∧ (0 ≤ a ∧ a.toNat ≤ b.toNat) then some (R (slf fl a.toNat b.toNat l.length) E ((l.take b.toNat).drop a.toNat)) else none := by
 by_cases hb : 0 ≤ b ∧ b.toNat ≤ l.length
 ·by_cases ha : 0 ≤ a ∧ a.toNat ≤ b.toNat
  ·rw [if_pos ⟨hb, ha⟩, slice_R he (b := b.toNat) (a := a.toNat) (by rw [bound_int, if_pos hb]) (by rw [bound_int, if_pos ha])]; rfl
  ·rw [if_neg fun x => ha x.2]
   unfold esz at he
   obtain ⟨e, h1, h2⟩ := Option.bind_eq_some_iff.1 he
   unfold sliceV R
   simp only [h1, h2]
   rw [if_pos (by rw [rows_length])]
   simp only [bound_none, Option.isSome_none, Bool.false_eq_true, if_false, bound_int, if_pos hb, if_neg ha]
 ·rw [if_neg fun x => hb x.1]
  unfold esz at he
  obtain ⟨e, h1, h2⟩ := Option.bind_eq_some_iff.1 he
  unfold sliceV R
  simp only [h1, h2]
  rw [if_pos (by rw [rows_length])]
  simp only [bound_none, Option.isSome_none, Bool.false_eq_true, if_false, bound_int, if_neg hb]
def isS : Option TypeDesc → Bool
 | some .string => true
 | _ => false
@[simp] theorem lenV_s {s : List UInt8} (ht : P.underlying t = some .string) : lenV P h t (.str s) = some (.int .i64 s.length) := lenV_str ht
@[simp] theorem index_s {s : List UInt8} (ht : P.underlying t = some .string) {i : Int} : indexV P t (.str s) (.int k i) = if 0 ≤ i ∧ i.toNat < s.length then some (.int .u8 (nth s i.toNat).toNat) else none := by
 unfold indexV
 simp only [intOf?, ht]
 by_cases h0 : 0 ≤ i
 ·rw [if_pos h0]
  by_cases h1 : i.toNat < s.length
  ·rw [if_pos ⟨h0, h1⟩, nth_some h1]; rfl
  ·rw [if_neg fun x => h1 x.2, List.getElem?_eq_none (Nat.le_of_not_lt h1)]; rfl
 ·rw [if_neg h0, if_neg fun x => h0 x.1]
@[simp] theorem slice_s_nn {s : List UInt8} (ht : P.underlying t = some .string) : sliceV P t h (.str s) none none none = some (.str s) := by
 unfold sliceV; simp [ht, bound]
@[simp] theorem slice_s_ns {s : List UInt8} (ht : P.underlying t = some .string) : sliceV P t h (.str s) none (some (.int k b)) none = if 0 ≤ b ∧ b.toNat ≤ s.length then some (.str (s.take b.toNat)) else none := by
 unfold sliceV
 simp only [ht, bound_int, bound_none]
 by_cases hb : 0 ≤ b ∧ b.toNat ≤ s.length
 ·rw [if_pos hb, if_pos hb]; simp only [List.drop_zero]
 ·rw [if_neg hb, if_neg hb]
@[simp] theorem slice_s_sn {s : List UInt8} (ht : P.underlying t = some .string) : sliceV P t h (.str s) (some (.int k a)) none none = if 0 ≤ a ∧ a.toNat ≤ s.length then some (.str (s.drop a.toNat)) else none := by
 unfold sliceV
 simp only [ht, bound_int, bound_none]
 by_cases ha : 0 ≤ a ∧ a.toNat ≤ s.length
 ·rw [if_pos ha]; simp only [if_pos ha, List.take_length]
 ·rw [if_neg ha]; simp only [if_neg ha]
@[simp] theorem slice_s_ss {s : List UInt8} (ht : P.underlying t = some .string) : sliceV P t h (.str s) (some (.int k a)) (some (.int k' b)) none = if (0 ≤ b ∧ b.toNat ≤ s.length) ∧ (0 ≤ a ∧ a.toNat ≤ b.toNat) then some (.str ((s.take b.toNat).drop a.toNat)) else none := by
 unfold sliceV
 simp only [ht, bound_int]
 by_cases hb : 0 ≤ b ∧ b.toNat ≤ s.length
 ·by_cases ha : 0 ≤ a ∧ a.toNat ≤ b.toNat
  ·simp only [if_pos hb, if_pos ha]; rw [if_pos ⟨hb, ha⟩]
  ·simp only [if_pos hb, if_neg ha]; rw [if_neg fun x => ha x.2]
 ·simp only [if_neg hb]; rw [if_neg fun x => hb x.1]
@[simp] theorem strOp_eql (a b : List UInt8) : strOp .eql a b = some (.bool (a == b)) := rfl
@[simp] theorem strOp_neq (a b : List UInt8) : strOp .neq a b = some (.bool !(a == b)) := rfl
@[simp] theorem strOp_add (a b : List UInt8) : strOp .add a b = if a.length + b.length ≤ 4611686018427387904 then some (.str (a ++ b)) else none := rfl
def ifcD : Option TypeDesc → Bool
 | some (.interface _) => true
 | _ => false
def slcD : Option TypeDesc → Bool
 | some (.slice _) => true
 | _ => false
attribute [simp] ifcD slcD typeAssertV
@[simp] theorem eqV_ii {P : Program} {t : TypeId} (h : ifcD (P.underlying t) = true) : eqV P true t .niliface .niliface = some true := by
 unfold ifcD at h; unfold eqV
 split at h
 ·rename_i hu; rw [hu]; rfl
 ·cases h
@[simp] theorem eqV_in {P : Program} {t : TypeId} {b : Bool} {u : TypeId} {v : V} (h : ifcD (P.underlying t) = true) : eqV P b t (.iface u v) .niliface = some false := by
 unfold ifcD at h; unfold eqV
 split at h
 ·rename_i hu; rw [hu]
 ·cases h
theorem eqV_rn {P : Program} {t : TypeId} {b nl f : Bool} {cs : List V} {n : Nat} {tok : Option Nat} (h : slcD (P.underlying t) = true) : eqV P b t (.row nl f cs n tok) (.row true true [] 0 none) =
  if nl then some true else if (cs.isEmpty && tok.isNone) && !f then none else some false := by
 unfold slcD at h; unfold eqV
 split at h
 ·rename_i hu; rw [hu]; cases nl <;> rfl
 ·cases h
@[simp] theorem conv_int {src dst : TypeId} {n : Int} : convV P h src dst (.int k n) = match P.underlying src, P.underlying dst with
  | some _, some (.int j) => some (.int j (j.wrap n), h)
  | _, _ => none := by
 unfold convV
 cases P.underlying src <;> cases P.underlying dst <;> (try rfl)
 rename_i x y
 cases x <;> cases y <;> (try rfl)
 simp only [isSl, Bool.false_eq_true, if_false]
 split <;> rfl
theorem bytesOfCells_eB : ∀ s : List UInt8, bytesOfCells (rows eB s) = some s
 | [] => rfl
 | b :: s => by
  have : rows eB (b :: s) = .int .u8 b.toNat :: rows eB s := rfl
  rw [this]
  simp only [bytesOfCells, bytesOfCells_eB s, Option.map_some]
  simp
def isBs (P : Program) (t : TypeId) : Bool := match P.underlying t with
 | some (.slice e) => match P.underlying e with
  | some (.int .u8) => true
  | _ => false
 | _ => false
theorem conv_row {src dst : TypeId} (h1 : isBs P src = true) (h2 : P.underlying dst = some .string) {nl f : Bool} {cs : List V} {n : Nat} {tok : Option Nat} (hn : cs.length = n) :
  convV P h src dst (.row nl f cs n tok) = (bytesOfCells cs).map fun s => (.str s, h) := by
 unfold isBs at h1
 unfold convV
 cases hs : P.underlying src with
 | none => rw [hs] at h1; cases h1
 | some d =>
  rw [hs] at h1
  cases d <;> simp only at h1 <;> (try (cases h1; done))
  rename_i e
  split at h1
  ·rename_i he
   simp [h2, he, isSl, sliceCells, hn]
  ·cases h1
@[simp] theorem conv_R {src dst : TypeId} (h1 : isBs P src = true) (h2 : P.underlying dst = some .string) {s : List UInt8} : convV P h src dst (R fl eB s) = some (.str s, h) := by
 unfold R
 rw [conv_row h1 h2 (by rw [rows_length, Nat.mul_one]), bytesOfCells_eB]; rfl
end
def apok (P : Program) (ts : Array TypeId) (sz : Nat) : Bool := match apz P ts with
 | some (a, b) => a == sz && decide (b ≤ 16384)
 | none => false
theorem apok_apz {P : Program} {ts : Array TypeId} {sz : Nat} (h : apok P ts sz = true) : ∃ b, apz P ts = some (sz, b) ∧ b ≤ 16384 := by
 unfold apok at h
 split at h
 ·rename_i a b ha
  simp only [Bool.and_eq_true, beq_iff_eq, decide_eq_true_eq] at h
  obtain ⟨rfl, h2⟩ := h
  exact ⟨b, ha, h2⟩
 ·cases h
attribute [simp] apok
@[simp] theorem append_R1 {P : Program} {α : Type} {E : α → List V} {sz : Nat} {h : Heap} {fl : Fl} {l : List α} [hE : EncC E sz] {ts : Array TypeId} {fl2 : Fl} {x : α} (ht : apok P ts sz = true) (ha : App h.ts sz fl) (hl : l.length + 1 ≤ 4294967296) :
  appendV P h false ts (R fl E l) (R fl2 E [x]) = some (R (false, false, some h.ts.length) E (l ++ [x]), bump h fl.2.2 sz) := by
 obtain ⟨b, h1, h2⟩ := apok_apz ht
 exact append_R h1 (by simp) ha (by simpa using hl) h2
theorem fold_I1 (a b : Bool) (tok : Option Nat) (x : Int) : V.row a b [.int .i64 x] 1 tok = R (a, b, tok) eI [x] := rfl
theorem wrap8 {n : Int} (h : 0 ≤ n ∧ n ≤ 255) : IntKind.u8.wrap n = n := IntWalk.u8_in n h
theorem wrap32 {n : Int} (h : -2147483648 ≤ n ∧ n ≤ 2147483647) : IntKind.i32.wrap n = n := IntWalk.i32_in n h
theorem tdiv_pos {a b : Int} (h : 0 ≤ a) : a.tdiv b = a / b := Int.tdiv_eq_ediv_of_nonneg h
theorem tmod_pos {a b : Int} (h : 0 ≤ a) : a.tmod b = a % b := Int.tmod_eq_emod_of_nonneg h
attribute [simp] buildSliceV buildSliceB buildV fillL writeL wrap8 wrap32 tdiv_pos tmod_pos
def arrz (P : Program) (t : TypeId) : Option (Nat × Nat) := match P.underlying t with
 | some (.array n e) => (szO P e).map fun s => (n, s)
 | _ => none
@[simp] theorem indexAddr_arr {P : Program} {α : Type} {E : α → List V} {sz : Nat} {t : TypeId} {l : List α} {k : IntKind} {i : Int} [Inhabited α] [hE : EncC E sz] (ha : arrz P t = some (l.length, sz)) :
  indexAddrV P t (.rptr (rows E l)) (.int k i) = if 0 ≤ i ∧ i.toNat < l.length then some (.rptr (E (nth l i.toNat) ++ rows E (l.drop (i.toNat + 1)))) else none := by
 unfold arrz at ha
 split at ha <;> (try (cases ha; done))
 rename_i n e hu
 cases hs : szO P e with
 | none => rw [hs] at ha; cases ha
 | some s =>
  rw [hs] at ha
  simp only [Option.map_some, Option.some.injEq, Prod.mk.injEq] at ha
  obtain ⟨rfl, rfl⟩ := ha
  unfold indexAddrV
  simp only [intOf?, hu, hs]
  by_cases hi : 0 ≤ i ∧ i.toNat < l.length
  ·rw [if_pos hi, if_pos hi, rows_drop, nth_drop hi.2, rows_cons]
  ·rw [if_neg hi, if_neg hi]
def eU (x : Int) : List V := [.int .u8 x]
def eU2 (x : Int × Int) : List V := [.int .u8 x.1, .int .u8 x.2]
instance : EncC eU 1 := ⟨fun _ => rfl, by decide, fun _ => rfl, fun _ => rfl, fun _ => rfl⟩
instance : EncC eU2 2 := ⟨fun _ => rfl, by decide, fun _ => rfl, fun _ => rfl, fun _ => rfl⟩
@[simp] theorem newB_mk (bs : List Blk) (ts : List (Option Nat)) (b : Blk) : newB ⟨bs, ts⟩ b = ⟨bs ++ [b], ts⟩ := rfl
@[simp] theorem newB_bs (h : Heap) (b : Blk) : (newB h b).bs = h.bs ++ [b] := rfl
@[simp] theorem newB_ts (h : Heap) (b : Blk) : (newB h b).ts = h.ts := rfl
@[simp] theorem emptyH_bs : emptyH.bs = [] := rfl
@[simp] theorem emptyH_ts : emptyH.ts = [] := rfl
attribute [simp] storeP
theorem wp_unroll {c : Cfg} (hk : c.kill = false) {b : Code} {s : St} {K : List Fr} {Q : Ax → St → Prop} (h : wp c b s (.loop b :: K) Q) : wp c (.loop b) s K Q := by
 rw [wp_loop_eq]
 have : killS c b s = s := by simp [killS, hk]
 rw [this]; exact h
end Go.Ab
namespace Go.Ab
set_option maxRecDepth 100000
@[simp] theorem lst_get {α : Type} (r : List α) (b : α) : (r ++ [b])[r.length]? = some b := by simp
@[simp] theorem lst_set {α : Type} (r : List α) (b x : α) : (r ++ [b]).set r.length x = r ++ [x] := by simp
@[simp] theorem foldN_max2 (k k' : IntKind) (a b : Int) : foldN .max (.int k a) [.int k' b] = some (.int k (max a b)) := by
 simp only [foldN, maxN]
 congr 2
 by_cases h : b > a
 ·rw [if_pos h]; omega
 ·rw [if_neg h]; omega
def idxRow (cs : List V) (n : Nat) (i : Int) : Option Nat → Option V
 | some sz => if 0 ≤ i ∧ i.toNat < n ∧ i.toNat * sz < cs.length then some (.rptr (cs.drop (i.toNat * sz))) else none
 | none => none
attribute [simp] idxRow
@[simp] theorem indexAddr_raw {P : Program} {t : TypeId} {nl f : Bool} {cs : List V} {n : Nat} {tok : Option Nat} {k : IntKind} {i : Int} : indexAddrV P t (.row nl f cs n tok) (.int k i) = idxRow cs n i (esz P t) := by
 unfold indexAddrV idxRow esz
 simp only [intOf?]
 cases elemOfSlice P t with
 | none => rfl
 | some e => simp only [Option.bind_some]; cases szO P e <;> rfl
def Fout (c : Cfg) (rs : List ResultVar) (r : CRes) (h' : Heap) (ax : Ax) (s : St) : Prop := finS c rs (some (ax, s)) = some (r, h')
@[simp] theorem Fout_normal (c : Cfg) (rs : List ResultVar) (r : CRes) (h' : Heap) (s : St) : Fout c rs r h' .normal s = (finM c rs s .ret = some (r, h')) := rfl
@[simp] theorem Fout_ret (c : Cfg) (rs : List ResultVar) (r : CRes) (h' : Heap) (s : St) : Fout c rs r h' .ret s = (finM c rs s .ret = some (r, h')) := rfl
attribute [irreducible] Fout
theorem Ci_fun_wp {c : Cfg} {f : FuncId} {fn : Func} {code : Code} {first cap args : List V} {h h' : Heap} {r : CRes} (hp : c.pure f = false) (hf : c.P.funcs[f]? = some fn) (hb : fn.body = some code) (hl : (first ++ args ++ cap).length ≤ fn.ntmps)
  (hw : wp c code ⟨tab fn.ntmps (lf (first ++ args ++ cap)), h, [], .no, none⟩ [] (Fout c fn.results.toList r h')) (hnb : c.natb f = false := by rfl) : Ci c (.func (.func f) first cap) args h = some (r, h') := by
 rw [Ci_fun hp hnb, bodyS_fin c hf hb, initT_tab hl]
 unfold wp Fout at hw
 cases hx : Ei c code ⟨tab fn.ntmps (lf (first ++ args ++ cap)), h, [], .no, none⟩ with
 | none => rw [hx] at hw; exact hw.elim
 | some y => obtain ⟨ax, s⟩ := y; rw [hx] at hw; exact hw
theorem bs_left {l r : List Blk} {i : Nat} (h : i < l.length) : (l ++ r)[i]? = l[i]? := List.getElem?_append_left h
theorem app_at {l L : List Blk} {j : Nat} : (l ++ L)[l.length + j]? = L[j]? := by rw [List.getElem?_append_right (by omega)]; congr 1; omega
theorem app_at0 {l L : List Blk} : (l ++ L)[l.length]? = L[0]? := by rw [List.getElem?_append_right (by omega)]; congr 1; omega
theorem app_set {l L : List Blk} {j : Nat} {x : Blk} : (l ++ L).set (l.length + j) x = l ++ L.set j x := by rw [List.set_append_right _ _ (by omega)]; congr 2; omega
theorem app_set0 {l L : List Blk} {x : Blk} : (l ++ L).set l.length x = l ++ L.set 0 x := by rw [List.set_append_right _ _ (by omega)]; congr 2; omega
theorem append_Rn {P : Program} {α : Type} {E : α → List V} {sz : Nat} {h : Heap} {fl : Fl} {l m : List α} [hE : EncC E sz] {ts : Array TypeId} {fl2 : Fl} (ht : apok P ts sz = true) (hm : ¬ m = []) (ha : App h.ts sz fl) (hl : l.length + m.length ≤ 4294967296) :
  appendV P h false ts (R fl E l) (R fl2 E m) = some (R (false, false, some h.ts.length) E (l ++ m), bump h fl.2.2 sz) := by
 obtain ⟨b, h1, h2⟩ := apok_apz ht
 exact append_R h1 hm ha hl h2
class EncP {α : Type} (E : α → List V) : Prop where
 reach : ∀ x g, reach1.reach1L g (E x) = []
 pure : ∀ x g h, pure1.pure1L g h (E x) = some (E x)
instance : EncP eI := ⟨fun _ _ => rfl, fun _ _ _ => rfl⟩
instance : EncP eS := ⟨fun _ _ => rfl, fun _ _ _ => rfl⟩
instance : EncP eB := ⟨fun _ _ => rfl, fun _ _ _ => rfl⟩
instance : EncP eBo := ⟨fun _ _ => rfl, fun _ _ _ => rfl⟩
theorem reach1L_append (g : Nat → List Nat) : ∀ a b : List V, reach1.reach1L g (a ++ b) = reach1.reach1L g a ++ reach1.reach1L g b
 | [], b => by simp [reach1.reach1L]
 | x :: a, b => by simp [reach1.reach1L, reach1L_append g a b]
theorem pure1L_append (g : V → Option V) (h : Heap) : ∀ (a b a' b' : List V), pure1.pure1L g h a = some a' → pure1.pure1L g h b = some b' → pure1.pure1L g h (a ++ b) = some (a' ++ b')
 | [], b, a', b', h1, h2 => by simp [pure1.pure1L] at h1; subst h1; simpa using h2
 | x :: a, b, a', b', h1, h2 => by
  simp only [pure1.pure1L] at h1
  cases hx : pure1 g h x with
  | none => rw [hx] at h1; simp at h1
  | some y =>
   rw [hx] at h1
   cases ha : pure1.pure1L g h a with
   | none => rw [ha] at h1; simp at h1
   | some ys =>
    rw [ha] at h1
    simp only [Option.some.injEq] at h1
    subst h1
    simp [pure1.pure1L, hx, pure1L_append g h a b ys b' ha h2]
theorem rows_reach {α : Type} {E : α → List V} [hE : EncP E] (g : Nat → List Nat) : ∀ l : List α, reach1.reach1L g (rows E l) = []
 | [] => rfl
 | x :: l => by rw [rows_cons, reach1L_append, hE.reach, rows_reach g l]; rfl
theorem rows_pure {α : Type} {E : α → List V} [hE : EncP E] (g : V → Option V) (h : Heap) : ∀ l : List α, pure1.pure1L g h (rows E l) = some (rows E l)
 | [] => rfl
 | x :: l => by rw [rows_cons]; exact pure1L_append g h _ _ _ _ (hE.pure x g h) (rows_pure g h l)
@[simp] theorem R_reach {α : Type} {E : α → List V} [hE : EncP E] (g : Nat → List Nat) (fl : Fl) (l : List α) : reach1 g (R fl E l) = [] := by
 unfold R; rw [reach1]; exact rows_reach g l
@[simp] theorem R_pure {α : Type} {E : α → List V} [hE : EncP E] (g : V → Option V) (h : Heap) (fl : Fl) (l : List α) : pure1 g h (R fl E l) = some (R fl0 E l) := by
 unfold R; rw [pure1, rows_pure g h l]; rfl
instance {α : Type} {E : α → List V} [EncP E] : EncP (eR E) := ⟨fun x g => by simp [eR, reach1.reach1L], fun x g h => by simp [eR, pure1.pure1L]⟩
theorem flat_reach {α : Type} {E : α → List V} [hE : EncP E] (h : Heap) (n : Nat) (l : List α) : (rows E l).flatMap (reachN h n) = [] := by
 cases n with
 | zero => induction rows E l with
  | nil => rfl
  | cons x r ih => simp [reachN]
 | succ n =>
  have key : ∀ cs : List V, cs.flatMap (reachN h (n + 1)) = reach1.reach1L (fun a => a :: (match h.bs[a]? with | some (.cells cs) | some (.frozen cs) => cs.flatMap (reachN h n) | _ => [])) cs := by
   intro cs
   induction cs with
   | nil => rfl
   | cons x r ih => rw [List.flatMap_cons, ih]; rfl
  rw [key, rows_reach]
theorem map_pure {α : Type} {E : α → List V} [hE : EncP E] (h : Heap) (n : Nat) (l : List α) : pure1.mapO (pureN h (n + 1)) (rows E l) = some (rows E l) := by
 have key : ∀ cs : List V, pure1.mapO (pureN h (n + 1)) cs = pure1.pure1L (pureN h n) h cs := by
  intro cs
  induction cs with
  | nil => rfl
  | cons x r ih => simp only [pure1.mapO, pure1.pure1L, ih]; rfl
 rw [key, rows_pure]
@[simp] theorem lenV_sl {P : Program} {h : Heap} {t : TypeId} {a o n s : Nat} : lenV P h t (.slice a o n s) = lenD n (P.underlying t) := by
 unfold lenV lenD
 cases P.underlying t with
 | none => rfl
 | some d => cases d <;> rfl
@[simp] theorem indexAddr_sl {P : Program} {t : TypeId} {a o n s : Nat} {k : IntKind} {i : Int} (he : esz P t = some s) : indexAddrV P t (.slice a o n s) (.int k i) = if 0 ≤ i ∧ i.toNat < n then some (.ptr a (o + i.toNat * s)) else none := by
 unfold esz at he
 obtain ⟨e, h1, h2⟩ := Option.bind_eq_some_iff.1 he
 unfold indexAddrV
 simp only [intOf?, h1, h2, true_and]
end Go.Ab
namespace Go.Ab
def bstep (acc : List (List Nat)) (o : Oper) : List Nat := o.after.toList.foldl (fun s e => if Region.binds .any e then e.on :: (acc.getD e.on [] ++ s) else s) []
theorem befores_eq (ops : Array Oper) : befores ops = ops.toList.foldl (fun acc o => acc ++ [bstep acc o]) [] := rfl
def mstep (acc : List Nat) (k : Nat) (o : Oper) : Nat := o.after.toList.foldl (fun s e => if Region.binds .any e then s ||| (2 ^ e.on ||| (if e.on < k then acc.getD (k - 1 - e.on) 0 else 0)) else s) 0
def pairsF (c : Cfg) (ops : Array Oper) (m : Nat) (y : Oper) : List Oper → Nat → Bool
 | [], _ => true
 | x :: r, k => (m.testBit (k - 1) || indep c ops x y) && pairsF c ops m y r (k - 1)
def chkF (c : Cfg) (ops : Array Oper) : List Oper → Nat → List Nat → List Oper → Bool
 | [], _, _, _ => true
 | o :: l, k, macc, prev => pairsF c ops (mstep macc k o) o prev k && chkF c ops l (k + 1) (mstep macc k o :: macc) (o :: prev)
def drawOkF (c : Cfg) (ops : Array Oper) : Bool := (edgesBack ops && !lcBad c ops) && chkF c ops ops.toList 0 [] []
def RelF (acc : List (List Nat)) (macc : List Nat) (k : Nat) : Prop := acc.length = k ∧ ∀ j, j < k → ∀ a, (macc.getD (k - 1 - j) 0).testBit a = true → a ∈ acc.getD j []
theorem mstep_sound {acc : List (List Nat)} {macc : List Nat} {k : Nat} (h : RelF acc macc k) (o : Oper) : ∀ a, (mstep macc k o).testBit a = true → a ∈ bstep acc o := by
 unfold mstep bstep
 have key : ∀ (es : List Edge) (s : List Nat) (ms : Nat), (∀ a, ms.testBit a = true → a ∈ s) →
   ∀ a, (es.foldl (fun s e => if Region.binds .any e then s ||| (2 ^ e.on ||| (if e.on < k then macc.getD (k - 1 - e.on) 0 else 0)) else s) ms).testBit a = true →
    a ∈ es.foldl (fun s e => if Region.binds .any e then e.on :: (acc.getD e.on [] ++ s) else s) s := by
  intro es
  induction es with
  | nil => intro s ms hs a ha; exact hs a ha
  | cons e es ih =>
   intro s ms hs
   simp only [List.foldl_cons]
   apply ih
   by_cases hb : Region.binds .any e = true
   ·rw [if_pos hb, if_pos hb]
    intro a ha
    rw [Nat.testBit_or, Nat.testBit_or, Nat.testBit_two_pow] at ha
    simp only [Bool.or_eq_true, decide_eq_true_eq] at ha
    rcases ha with ha | ha | ha
    ·exact List.mem_cons_of_mem _ (List.mem_append_right _ (hs a ha))
    ·rw [ha]; exact List.mem_cons_self
    ·by_cases hk : e.on < k
     ·rw [if_pos hk] at ha
      exact List.mem_cons_of_mem _ (List.mem_append_left _ (h.2 e.on hk a ha))
     ·rw [if_neg hk] at ha; simp at ha
   ·rw [if_neg hb, if_neg hb]; exact hs
 exact key _ [] 0 (by simp)
theorem pairsF_sound {c : Cfg} {ops : Array Oper} {m : Nat} {y : Oper} : ∀ (prev : List Oper) (k : Nat), prev.length = k → pairsF c ops m y prev k = true →
  ∀ a, a < k → m.testBit a = true ∨ ∃ x, prev.reverse[a]? = some x ∧ indep c ops x y = true
 | [], k, hk, _, a, ha => by simp at hk; omega
 | x :: r, k, hk, h, a, ha => by
  unfold pairsF at h
  simp only [Bool.and_eq_true, Bool.or_eq_true] at h
  simp only [List.length_cons] at hk
  by_cases hl : a = k - 1
  ·rcases h.1 with h1 | h1
   ·left; rw [hl]; exact h1
   ·right
    refine ⟨x, ?_, h1⟩
    rw [List.reverse_cons, List.getElem?_append_right (by simp; omega)]
    simp [show a - r.length = 0 by omega]
  ·rcases pairsF_sound r (k - 1) (by omega) h.2 a (by omega) with h1 | ⟨z, h1, h2⟩
   ·exact .inl h1
   ·right
    refine ⟨z, ?_, h2⟩
    rw [List.reverse_cons, List.getElem?_append_left (by simp; omega)]
    exact h1
theorem foldB_keep (l : List Oper) : ∀ (acc : List (List Nat)) (j : Nat), j < acc.length → (l.foldl (fun acc o => acc ++ [bstep acc o]) acc).getD j [] = acc.getD j [] := by
 induction l with
 | nil => intro acc j _; rfl
 | cons o l ih =>
  intro acc j hj
  rw [List.foldl_cons, ih _ _ (by simp; omega), List.getD_eq_getElem?_getD, List.getD_eq_getElem?_getD, List.getElem?_append_left hj]
theorem chkF_sound {c : Cfg} {ops : Array Oper} : ∀ (l p : List Oper) (macc : List Nat) (acc : List (List Nat)), RelF acc macc p.length → chkF c ops l p.length macc p.reverse = true →
  ∀ i, p.length ≤ i → i < p.length + l.length → ∀ a, a < i → a ∈ (l.foldl (fun acc o => acc ++ [bstep acc o]) acc).getD i [] ∨ ∃ x y, (p ++ l)[a]? = some x ∧ (p ++ l)[i]? = some y ∧ indep c ops x y = true
 | [], p, macc, acc, hR, h, i, h1, h2, a, ha => by simp at h2; omega
 | o :: l, p, macc, acc, hR, h, i, h1, h2, a, ha => by
  unfold chkF at h
  simp only [Bool.and_eq_true] at h
  have hR' : RelF (acc ++ [bstep acc o]) (mstep macc p.length o :: macc) (p ++ [o]).length := by
   refine ⟨by simp [hR.1], fun j hj b hb => ?_⟩
   simp only [List.length_append, List.length_cons, List.length_nil] at hj hb
   by_cases hjl : j = p.length
   ·subst hjl
    have : p.length + (0 + 1) - 1 - p.length = 0 := by omega
    rw [this] at hb
    have := mstep_sound hR o b (by simpa using hb)
    rw [List.getD_eq_getElem?_getD, List.getElem?_append_right (by rw [hR.1]; exact Nat.le_refl _), hR.1]
    simpa using this
   ·have e : p.length + (0 + 1) - 1 - j = (p.length - 1 - j) + 1 := by omega
    rw [e] at hb
    have := hR.2 j (by omega) b (by simpa using hb)
    rw [List.getD_eq_getElem?_getD, List.getElem?_append_left (by rw [hR.1]; omega), ← List.getD_eq_getElem?_getD]
    exact this
  by_cases hi : i = p.length
  ·subst hi
   rcases pairsF_sound p.reverse p.length (by simp) h.1 a ha with hm | ⟨x, hx, hxy⟩
   ·left
    rw [List.foldl_cons, foldB_keep _ _ _ (by simp [hR.1]), List.getD_eq_getElem?_getD, List.getElem?_append_right (by rw [hR.1]; exact Nat.le_refl _), hR.1]
    simpa using mstep_sound hR o a hm
   ·right
    rw [List.reverse_reverse] at hx
    refine ⟨x, o, ?_, ?_, hxy⟩
    ·rw [List.getElem?_append_left ha]; exact hx
    ·rw [List.getElem?_append_right (Nat.le_refl _)]; simp
  ·have ih := chkF_sound l (p ++ [o]) (mstep macc p.length o :: macc) (acc ++ [bstep acc o]) hR' (by simpa using h.2) i (by simp; omega) (by simp at h2 ⊢; omega) a ha
   rw [List.foldl_cons]
   simpa using ih
theorem drawOkF_ok {c : Cfg} {ops : Array Oper} (h : drawOkF c ops = true) : drawOk c ops = true := by
 unfold drawOkF at h
 simp only [Bool.and_eq_true] at h
 unfold drawOk
 simp only [Bool.and_eq_true]
 refine ⟨h.1, ?_⟩
 rw [List.all_eq_true]
 intro i hi
 rw [List.all_eq_true]
 intro a ha
 simp only [List.mem_range] at hi ha
 have := chkF_sound (c := c) (ops := ops) ops.toList [] [] [] ⟨rfl, fun j hj => by simp at hj⟩ h.2 i (by simp) (by simpa using hi) a ha
 simp only [List.nil_append] at this
 rw [← befores_eq] at this
 simp only [Bool.or_eq_true]
 rcases this with h1 | ⟨x, y, h1, h2, h3⟩
 ·left; simpa using h1
 ·right
  have e1 : ops[a]? = some x := by simpa using h1
  have e2 : ops[i]? = some y := by simpa using h2
  rw [e1, e2]; exact h3
theorem wp_drawF {c : Cfg} {K : List Fr} {Q : Ax → St → Prop} {s : St} {id : Nat} {ops : Array Oper} (h : drawOkF c ops = true) (k : wo c true ops 0 ops.toList s K Q) : wp c (.region id ops true) s K Q := wp_draw c (drawOkF_ok h) k
end Go.Ab
namespace Go.Ab
set_option maxRecDepth 100000
def mkz (P : Program) (t : TypeId) : Option (Nat × Nat × List V) := match elemOfSlice P t with
  | some e => match P.info? e, zeroCs P e with
    | some i, some z => some (i.size, i.bytes, z)
    | _, _ => none
  | none => none
theorem mkz_some {P : Program} {t : TypeId} {sz by' : Nat} {z : List V} (h : mkz P t = some (sz, by', z)) : ∃ e i, elemOfSlice P t = some e ∧ P.info? e = some i ∧ zeroCs P e = some z ∧ i.size = sz ∧ i.bytes = by' := by
  unfold mkz at h
  split at h <;> (try (cases h; done))
  rename_i e he
  split at h <;> (try (cases h; done))
  rename_i i z' hi hz
  simp only [Option.some.injEq, Prod.mk.injEq] at h
  obtain ⟨h1, h2, h3⟩ := h
  exact ⟨e, i, he, hi, by rw [hz, h3], h1, h2⟩
section
variable {P : Program} {h : Heap} {t : TypeId} {k k' : IntKind}
@[simp] theorem lst_get2 {α : Type} (A B : List α) (b : α) : (A ++ (B ++ [b]))[A.length + B.length]? = some b := by
  rw [← List.append_assoc, ← List.length_append]; simp
@[simp] theorem lst_set2 {α : Type} (A B : List α) (b x : α) : (A ++ (B ++ [b])).set (A.length + B.length) x = A ++ (B ++ [x]) := by
  rw [← List.append_assoc, ← List.length_append, lst_set, List.append_assoc]
def mkRow (h : Heap) (c : Int) : Option (Nat × Nat × List V) → Option (V × Heap)
  | some (sz, b, _) => if (0 ≤ c ∧ c ≤ 4294967296) ∧ b ≤ 16384 ∧ 0 < sz then some (.row false false [] 0 (some h.ts.length), ⟨h.bs, h.ts ++ [some sz]⟩) else none
  | none => none
def mkBlk (h : Heap) (c : Int) : Option (Nat × Nat × List V) → Option (V × Heap)
  | some (sz, b, z) => if (0 ≤ c ∧ c ≤ 4294967296) ∧ b ≤ 16384 ∧ 0 < sz then some (.slice h.bs.length 0 c.toNat sz, newB h (.cells ((List.replicate c.toNat z).flatten))) else none
  | none => none
attribute [simp] mkRow mkBlk
theorem mkz_none {P : Program} {t : TypeId} (h : mkz P t = none) (hh : Heap) (lc mr : Bool) (l c : V) : makeSliceV P hh t lc mr l c = none := by
  unfold mkz at h
  unfold makeSliceV
  cases he : elemOfSlice P t with
  | none => rfl
  | some e =>
    rw [he] at h
    simp only at h
    cases intOf? l <;> cases intOf? c <;> (try rfl)
    simp only
    cases hi : P.info? e <;> cases hz : zeroCs P e <;> rw [hi, hz] at h <;> first | rfl | cases h
@[simp] theorem make_row {c : Int} {mr : Bool} : makeSliceV P h t true mr (.int k 0) (.int k' c) = mkRow h c (mkz P t) := by
  cases hm : mkz P t with
  | none => rw [mkz_none hm]; rfl
  | some x =>
    obtain ⟨sz, b, z⟩ := x
    obtain ⟨e, i, h1, h2, h3, h4, h5⟩ := mkz_some hm
    unfold makeSliceV
    simp only [intOf?, h1, h2, h3, mkRow]
    by_cases hc : (0 ≤ c ∧ c ≤ 4294967296) ∧ b ≤ 16384 ∧ 0 < sz
    · rw [if_pos hc, if_pos ⟨by omega, by omega, by simp [smallRow]; omega, by omega⟩]
      simp [h4]
    · rw [if_neg hc, if_neg]
      rintro ⟨a1, a2, a3, a4⟩
      simp [smallRow] at a3
      omega
@[simp] theorem make_blk {n : Int} : makeSliceV P h t false false (.int k n) (.int k' n) = mkBlk h n (mkz P t) := by
  cases hm : mkz P t with
  | none => rw [mkz_none hm]; rfl
  | some x =>
    obtain ⟨sz, b, z⟩ := x
    obtain ⟨e, i, h1, h2, h3, h4, h5⟩ := mkz_some hm
    unfold makeSliceV
    simp only [intOf?, h1, h2, h3, mkBlk]
    by_cases hc : (0 ≤ n ∧ n ≤ 4294967296) ∧ b ≤ 16384 ∧ 0 < sz
    · rw [if_pos hc, if_pos ⟨by omega, by omega, by simp [smallRow]; omega, by omega⟩]
      simp [h4]
    · rw [if_neg hc, if_neg]
      rintro ⟨a1, a2, a3, a4⟩
      simp [smallRow] at a3
      omega
def mkRd (h : Heap) (c : Int) : Option (Nat × Nat × List V) → Option (V × Heap)
  | some (sz, b, z) => if (0 ≤ c ∧ c ≤ 4294967296) ∧ b ≤ 16384 ∧ 0 < sz then some (.row false true ((List.replicate c.toNat z).flatten) c.toNat none, h) else none
  | none => none
attribute [simp] mkRd
@[simp] theorem make_rd {n : Int} : makeSliceV P h t false true (.int k n) (.int k' n) = mkRd h n (mkz P t) := by
  cases hm : mkz P t with
  | none => rw [mkz_none hm]; rfl
  | some x =>
    obtain ⟨sz, b, z⟩ := x
    obtain ⟨e, i, h1, h2, h3, h4, h5⟩ := mkz_some hm
    unfold makeSliceV
    simp only [intOf?, h1, h2, h3, mkRd]
    by_cases hc : (0 ≤ n ∧ n ≤ 4294967296) ∧ b ≤ 16384 ∧ 0 < sz
    · rw [if_pos hc, if_pos ⟨by omega, by omega, by simp [smallRow]; omega, by omega⟩]
      simp
    · rw [if_neg hc, if_neg]
      rintro ⟨a1, a2, a3, a4⟩
      simp [smallRow] at a3
      omega
@[simp] theorem lenV_raw {a b : Bool} {cs : List V} {n : Nat} {tok : Option Nat} : lenV P h t (.row a b cs n tok) = lenD n (P.underlying t) := by
  unfold lenV lenD
  cases P.underlying t with
  | none => rfl
  | some d => cases d <;> rfl
def idxArr (a off : Nat) (i : Int) : Option (Nat × Nat) → Option V
  | some (n, s) => if 0 ≤ i ∧ i.toNat < n then some (.ptr a (off + i.toNat * s)) else none
  | none => none
attribute [simp] idxArr
@[simp] theorem indexAddr_ptr {a off : Nat} {i : Int} : indexAddrV P t (.ptr a off) (.int k i) = idxArr a off i (arrz P t) := by
  unfold indexAddrV idxArr arrz
  simp only [intOf?]
  cases P.underlying t with
  | none => rfl
  | some d => cases d <;> (try rfl)
              rename_i n e
              simp only
              cases szO P e <;> rfl
@[simp] theorem eqV_bb {b : Bool} {x y : Bool} (ht : P.underlying t = some .bool) : eqV P b t (.bool x) (.bool y) = some (x == y) := by
  unfold eqV; rw [ht]
theorem flat_rep1 (n : Nat) (v : V) : (List.replicate n [v]).flatten = List.replicate n v := by
  induction n with
  | zero => rfl
  | succ n ih => rw [List.replicate_succ, List.flatten_cons, ih]; rfl
def isBb (P : Program) (t : TypeId) : Bool := match P.underlying t with
  | some (.slice e) => match P.underlying e, bytesO P e with
    | some (.int .u8), some _ => true
    | _, _ => false
  | _ => false
theorem cells_eB : ∀ s : List UInt8, cellsOfBytes s = rows eB s
  | [] => rfl
  | b :: s => by
    show V.int .u8 b.toNat :: cellsOfBytes s = _
    rw [cells_eB s]; rfl
@[simp] theorem conv_sb {src dst : TypeId} (h1 : P.underlying src = some .string) (h2 : isBb P dst = true) {s : List UInt8} : convV P h src dst (.str s) = some (.slice h.bs.length 0 s.length 1, newB h (.cells (rows eB s))) := by
  unfold isBb at h2
  unfold convV
  split at h2
  · rename_i e he
    simp only [h1, he]
    split at h2
    · rename_i b hu hb
      simp only [hu, hb, cells_eB]
    · cases h2
  · cases h2
def cvB (h : Heap) (n : Nat) : Option Blk → Option (V × Heap)
  | some (.cells cs) => if n ≤ cs.length then (bytesOfCells (cs.take n)).map (fun s => (.str s, h)) else none
  | some (.frozen cs) => if n ≤ cs.length then (bytesOfCells (cs.take n)).map (fun s => (.str s, h)) else none
  | _ => none
attribute [simp] cvB
@[simp] theorem conv_bs {src dst : TypeId} (h1 : isBs P src = true) (h2 : P.underlying dst = some .string) {a n : Nat} : convV P h src dst (.slice a 0 n 1) = cvB h n h.bs[a]? := by
  unfold isBs at h1
  unfold convV
  cases hs : P.underlying src with
  | none => rw [hs] at h1; cases h1
  | some d =>
    rw [hs] at h1
    cases d <;> simp only at h1 <;> (try (cases h1; done))
    rename_i e
    split at h1
    · rename_i he
      simp only [h2, he, isSl, sliceCells, if_true, Nat.mul_one, Nat.zero_add, List.drop_zero]
      cases h.bs[a]? with
      | none => rfl
      | some x => cases x <;> first | rfl | (rename_i cs; by_cases hn : n ≤ cs.length <;> simp [cvB, hn])
    · cases h1
end
theorem append_Bn {P : Program} {α : Type} {E : α → List V} {sz : Nat} {h : Heap} {fl : Fl} {l m : List α} [hE : EncC E sz] {ts : Array TypeId} {fl2 : Fl} (ht : apok P ts sz = true) (hm : ¬ m = []) (ha : (fl.1 || fl.2.1) = true) (hl : l.length + m.length ≤ 4294967296) :
    appendV P h true ts (R fl E l) (R fl2 E m) = some (.slice h.bs.length 0 (l.length + m.length) sz, newB h (.cells (rows E (l ++ m)))) := by
  obtain ⟨b, h1, h2⟩ := apok_apz ht
  exact appendB_R h1 hm ha hl h2
end Go.Ab
namespace Go.Ab
set_option maxRecDepth 100000
def frz : Blk → Blk
 | .cells cs => .frozen cs
 | b => b
theorem freezeB_at (h : Heap) (a b : Nat) : (freezeB h a).bs[b]? = if a = b then (h.bs[b]?).map frz else h.bs[b]? := by
 unfold freezeB
 by_cases e : a = b
 ·subst e
  rw [if_pos rfl]
  cases hb : h.bs[a]? with
  | none => simp [hb]
  | some x =>
   have hl := (List.getElem?_eq_some_iff.1 hb).1
   cases x <;> simp [hb, frz, hl] <;> exact (List.getElem?_eq_some_iff.1 hb).2
 ·rw [if_neg e]
  cases hb : h.bs[a]? with
  | none => rfl
  | some x => cases x <;> simp [e]
theorem frz_frz (b : Blk) : frz (frz b) = frz b := by cases b <;> rfl
theorem freezeAll_at : ∀ (as : List Nat) (h : Heap) (b : Nat), (freezeAll h as).bs[b]? = if b ∈ as then (h.bs[b]?).map frz else h.bs[b]?
 | [], h, b => by simp [freezeAll]
 | a :: as, h, b => by
  show (freezeAll (freezeB h a) as).bs[b]? = _
  rw [freezeAll_at as, freezeB_at]
  by_cases e : a = b
  ·subst e
   simp only [if_true, List.mem_cons, true_or]
   split
   ·rw [Option.map_map]; congr 1; funext x; exact frz_frz x
   ·rfl
  ·have e' : ¬ b = a := fun x => e x.symm
   simp only [List.mem_cons, e, e', if_false, false_or]
def TabL {α : Type} (bs : List Blk) (E : α → List V) (sz : Nat) : List V → List (List α) → Prop
 | [], [] => True
 | c :: cs, l :: L => (∃ b, c = .slice b 0 l.length sz ∧ bs[b]? = some (.cells (rows E l))) ∧ TabL bs E sz cs L
 | _, _ => False
section
variable {α : Type} {E : α → List V} {sz : Nat}
theorem TabL.len {bs : List Blk} : ∀ {cs : List V} {L : List (List α)}, TabL bs E sz cs L → cs.length = L.length
 | [], [], _ => rfl
 | c :: cs, l :: L, h => by simp only [List.length_cons]; rw [TabL.len h.2]
 | [], _ :: _, h => h.elim
 | _ :: _, [], h => h.elim
def tabIds : List V → List Nat
 | .slice b _ _ _ :: r => b :: tabIds r
 | _ :: r => tabIds r
 | [] => []
structure TabH (bs : List Blk) (E : α → List V) (sz : Nat) (a : Nat) (L : List (List α)) : Prop where
 ex : ∃ cs, bs[a]? = some (.cells cs) ∧ TabL bs E sz cs L
theorem frz_all {h : Heap} {as : List Nat} {b : Nat} (hb : b ∈ as) {x : Blk} (hx : h.bs[b]? = some x) : (freezeAll h as).bs[b]? = some (frz x) := by
 rw [freezeAll_at, if_pos hb, hx]; rfl
end
@[simp] theorem foldN_min2 (k k' : IntKind) (a b : Int) : foldN .min (.int k a) [.int k' b] = some (.int k (min a b)) := by
 simp only [foldN, maxN]
 congr 2
 by_cases h : b < a
 ·rw [if_pos h]; omega
 ·rw [if_neg h]; omega
def tbl (n : Nat) (F : Nat → Blk) : List Blk := (List.range n).map F
def updB (F : Nat → Blk) (i : Nat) (b : Blk) : Nat → Blk := fun j => if j = i then b else F j
@[simp] theorem updB_same (F : Nat → Blk) (i : Nat) (b : Blk) : updB F i b i = b := by simp [updB]
@[simp] theorem updB_updB (F : Nat → Blk) (i : Nat) (b c : Blk) : updB (updB F i b) i c = updB F i c := by
 funext j; unfold updB; split <;> rfl
@[simp] theorem tbl_length (n : Nat) (F : Nat → Blk) : (tbl n F).length = n := by simp [tbl]
theorem tab_get1 {n i : Nat} {f : Nat → V} (h : i < n) : List.take 1 (List.drop i (tab n f)) = [f i] := by
 have hl : i < (tab n f).length := by simpa using h
 rw [List.drop_eq_getElem_cons hl]
 simp [tab]
theorem rep_tab (n : Nat) (v : V) : List.replicate n v = tab n (fun _ => v) := by
 unfold tab
 apply List.ext_getElem (by simp)
 intro i h1 h2; simp
theorem repf_tab (n : Nat) (v : V) : (List.replicate n [v]).flatten = tab n (fun _ => v) := by rw [flat_rep1, rep_tab]
def rowF (m : Nat) (g : Nat → Int) : List Int := (List.range m).map g
@[simp] theorem rowF_len (m : Nat) (g : Nat → Int) : (rowF m g).length = m := by simp [rowF]
theorem rowF_rows (m : Nat) (g : Nat → Int) : rows eI (rowF m g) = tab m (fun k => .int .i64 (g k)) := by
 unfold rows rowF tab
 rw [List.flatMap_def, List.map_map]
 induction List.range m with
 | nil => rfl
 | cons x r ih => simp only [List.map_cons, List.flatten_cons, ih]; rfl
def tabF (n m : Nat) (g : Nat → Nat → Int) : List (List Int) := (List.range n).map fun i => rowF m (g i)
@[simp] theorem tabF_len (n m : Nat) (g : Nat → Nat → Int) : (tabF n m g).length = n := by simp [tabF]
theorem nth_rowF {m k : Nat} {g : Nat → Int} (h : k < m) : nth (rowF m g) k = g k := by
 rw [nth_eq (by simpa using h)]; simp [rowF]
end Go.Ab
namespace Go.Ab
set_option maxRecDepth 100000
section
variable {α : Type} {E : α → List V} {sz : Nat}
theorem sl_pure [EncP E] [hE : EncC E sz] {h : Heap} {a n : Nat} {L : List α} (hn : n = L.length) (hb : h.bs[a]? = some (.cells (rows E L))) :
    [V.slice a 0 n sz].flatMap (reachN h 8) = [a] ∧ pure1 (pureN (freezeAll h [a]) 7) (freezeAll h [a]) (V.slice a 0 n sz) = some (R fl0 E L) := by
  subst hn
  constructor
  · rw [List.flatMap_cons, List.flatMap_nil, List.append_nil]
    show a :: (match h.bs[a]? with | some (.cells cs) | some (.frozen cs) => cs.flatMap (reachN h 7) | _ => []) = [a]
    rw [hb]; simp only; rw [flat_reach]
  · have hf := frz_all (h := h) (as := [a]) (by simp) hb
    rw [pure1, hf]
    simp only [frz, Nat.zero_add, List.drop_zero]
    rw [if_pos (by rw [rows_length]; exact Nat.le_refl _), List.take_of_length_le (by rw [rows_length]; exact Nat.le_refl _), map_pure]
    rfl
theorem outS_slT [EncP E] [hE : EncC E sz] {h : Heap} {a n : Nat} {L : List α} {rest : List V} (hn : n = L.length) (hb : h.bs[a]? = some (.cells (rows E L))) (hr : ∀ g, reach1.reach1L g rest = []) (hp : ∀ g h, pure1.pure1L g h rest = some rest) :
    outS (some (.ret (.tuple (.slice a 0 n sz :: rest)), h)) = some (.ret (.tuple (R fl0 E L :: rest))) := by
  obtain ⟨h1, h2⟩ := sl_pure hn hb
  show (match handV h [V.tuple (V.slice a 0 n sz :: rest)] with | some ([v], _) => some (CRes.ret v) | _ => none) = _
  unfold handV
  rw [if_neg (by simp [V.closed.closedL, V.closed])]
  have h4 : [V.tuple (V.slice a 0 n sz :: rest)].flatMap (reachN h 8) = [a] := by
    rw [List.flatMap_cons, List.flatMap_nil, List.append_nil] at h1 ⊢
    show reachN h 8 (V.slice a 0 n sz) ++ reach1.reach1L _ rest = [a]
    rw [hr, List.append_nil]; exact h1
  simp only [h4]
  have h3 : pureN (freezeAll h [a]) 8 (V.tuple (V.slice a 0 n sz :: rest)) = some (.tuple (R fl0 E L :: rest)) := by
    show (pure1.pure1L _ _ _).map V.tuple = _
    rw [pure1.pure1L, h2, hp]; rfl
  simp [pure1.mapO, h3]
end
def cI (f : Nat → Int) : Nat → V := fun j => .int .i64 (f j)
@[simp] theorem cI_at (f : Nat → Int) (j : Nat) : cI f j = .int .i64 (f j) := rfl
def updI (f : Nat → Int) (v : Nat) (x : Int) : Nat → Int := fun j => if j = v then x else f j
@[simp] theorem updI_same (f : Nat → Int) (v : Nat) (x : Int) : updI f v x v = x := by simp [updI]
theorem updI_ne {f : Nat → Int} {v j : Nat} {x : Int} (h : ¬ j = v) : updI f v x j = f j := by simp [updI, h]
@[simp] theorem updI_updI (f : Nat → Int) (v : Nat) (x y : Int) : updI (updI f v x) v y = updI f v y := by
  funext j; unfold updI; split <;> rfl
@[simp] theorem upd_cI (f : Nat → Int) (v : Nat) (x : Int) : upd (cI f) v (.int .i64 x) = cI (updI f v x) := by
  funext j; unfold upd cI updI; split <;> rfl
theorem rowF_cI (m : Nat) (g : Nat → Int) : rows eI (rowF m g) = tab m (cI g) := rowF_rows m g
theorem cI_rep (n : Nat) (x : Int) : List.replicate n (V.int .i64 x) = tab n (cI fun _ => x) := rep_tab n _
theorem cI_repf (n : Nat) (x : Int) : (List.replicate n [V.int .i64 x]).flatten = tab n (cI fun _ => x) := repf_tab n _
def overF (L : List (Nat × V)) (f : Nat → V) : Nat → V := fun i => match L.find? (fun x => x.1 == i) with
  | some x => x.2
  | none => f i
theorem overF_eq {L : List (Nat × V)} {f : Nat → V} (h : ∀ x ∈ L, f x.1 = x.2) : overF L f = f := by
  funext i
  unfold overF
  split
  · rename_i x hx
    have h1 := List.mem_of_find?_eq_some hx
    have h2 := List.find?_some hx
    simp only [beq_iff_eq] at h2
    rw [← h x h1, h2]
  · rfl
theorem wp_drawK {c : Cfg} {K : List Fr} {Q : Ax → St → Prop} (L : List (Nat × V)) {id n : Nat} {f : Nat → V} {h : Heap} {d : List Def} {p : Pan} {ro : Option Nat} {ops : Array Oper} (hf : ∀ x ∈ L, f x.1 = x.2) (hk : drawOkT c ops (tab n (overF L f)) h = true)
    (k : wo c true ops 0 ops.toList ⟨tab n f, h, d, p, ro⟩ K Q) : wp c (.region id ops true) ⟨tab n f, h, d, p, ro⟩ K Q := by
  rw [overF_eq hf] at hk
  exact wp_drawT _ hk k
theorem wp_loopD {c : Cfg} {K : List Fr} {Q : Ax → St → Prop} {b : Code} {n : Nat} {p : Pan} {ro : Option Nat} (hk : c.kill = false) (I : (Nat → V) → Heap → List Def → Nat → (Nat → V) → Heap → List Def → Prop) (m : Nat) (f0 : Nat → V) (h0 : Heap) (d0 : List Def) (hI : I f0 h0 d0 m f0 h0 d0)
    (step : ∀ m f h d, I f0 h0 d0 m f h d → (∀ m' f' h' d', m' < m → I f0 h0 d0 m' f' h' d' → wp c (.loop b) ⟨tab n f', h', d', p, ro⟩ K Q) → wp c b ⟨tab n f, h, d, p, ro⟩ (.loop b :: K) Q) :
    wp c (.loop b) ⟨tab n f0, h0, d0, p, ro⟩ K Q := by
  have key : ∀ m f h d, I f0 h0 d0 m f h d → wp c (.loop b) ⟨tab n f, h, d, p, ro⟩ K Q := by
    intro m
    induction m using Nat.strongRecOn with
    | _ m ih =>
      intro f h d hi
      rw [wp_loop_eq]
      have : killS c b ⟨tab n f, h, d, p, ro⟩ = ⟨tab n f, h, d, p, ro⟩ := by simp [killS, hk]
      rw [this]
      exact step m f h d hi fun m' f' h' d' hm hi' => ih m' hm f' h' d' hi'
  exact key m f0 h0 d0 hI
structure Mk (as : List Nat) (X : List Blk) : Prop where
  nd : as.Nodup
  at' : ∀ a ∈ as, X[a]? = some (.dfr true)
theorem Mk.nil (X : List Blk) : Mk [] X := ⟨List.nodup_nil, fun _ h => by cases h⟩
theorem Mk.app {as : List Nat} {X : List Blk} (h : Mk as X) (Y : List Blk) : Mk as (X ++ Y) :=
  ⟨h.nd, fun a ha => by have h1 := h.at' a ha; rw [List.getElem?_append_left (List.getElem?_eq_some_iff.1 h1).1]; exact h1⟩
theorem Mk.new {as : List Nat} {X : List Blk} (h : Mk as X) {Y : List Blk} {k : Nat} (hy : Y[k]? = some (.dfr true)) : Mk ((X.length + k) :: as) (X ++ Y) := by
  refine ⟨List.nodup_cons.2 ⟨fun hm => ?_, h.nd⟩, fun a ha => ?_⟩
  · have := (List.getElem?_eq_some_iff.1 (h.at' _ hm)).1; omega
  · rcases List.mem_cons.1 ha with rfl | ha
    · rw [List.getElem?_append_right (by omega), show X.length + k - X.length = k by omega]; exact hy
    · exact (h.app Y).at' a ha
def mkD (k : Nat) (as : List Nat) : List Def := as.map fun a => .mark (a + k)
@[simp] theorem mkD_nil (k : Nat) : mkD k [] = [] := rfl
theorem mkD_cons (k a : Nat) (as : List Nat) : mkD k (a :: as) = .mark (a + k) :: mkD k as := rfl
theorem leave_marks {D : DCallF} {m : Md} {ts : List (Option Nat)} : ∀ {as : List Nat} {k : Nat} {bs : List Blk}, as.Nodup → (∀ a ∈ as, bs[a + k]? = some (.dfr true)) →
    ∃ bs', leaveS D (mkD k as) ⟨bs, ts⟩ m = some (⟨bs', ts⟩, m) ∧ ∀ (i : Nat) (cs : List V), bs[i]? = some (Blk.cells cs) → bs'[i]? = some (Blk.cells cs)
  | [], k, bs, _, _ => ⟨bs, rfl, fun _ _ h => h⟩
  | a :: as, k, bs, hn, ha => by
    have h1 := ha a (by simp)
    obtain ⟨n1, n2⟩ := List.nodup_cons.1 hn
    obtain ⟨bs', h2, h3⟩ := leave_marks (D := D) (m := m) (ts := ts) (as := as) (k := k) (bs := bs.set (a + k) (.dfr false)) n2 (fun x hx => by
      rw [List.getElem?_set_ne (fun e => n1 (by have : a = x := by omega
                                                rw [this]; exact hx))]
      exact ha x (List.mem_cons_of_mem _ hx))
    refine ⟨bs', ?_, fun i cs hi => h3 i cs ?_⟩
    · rw [mkD_cons]
      simp only [leaveS, h1]
      exact h2
    · rw [List.getElem?_set_ne (fun e => by rw [← e, h1] at hi; cases hi)]
      exact hi
theorem Mk.leave {D : DCallF} {m : Md} {ts : List (Option Nat)} {as : List Nat} {X L R : List Blk} (h : Mk as X) {k : Nat} (hk : k = L.length) :
    ∃ bs', leaveS D (mkD k as) ⟨L ++ (X ++ R), ts⟩ m = some (⟨bs', ts⟩, m) ∧ ∀ (i : Nat) (cs : List V), (L ++ (X ++ R))[i]? = some (Blk.cells cs) → bs'[i]? = some (Blk.cells cs) := by
  subst hk
  refine leave_marks h.nd fun a ha => ?_
  rw [List.getElem?_append_right (by omega), show a + L.length - L.length = a by omega]
  exact (h.app R).at' a ha
end Go.Ab
namespace Go.Ab
set_option maxRecDepth 100000
section
variable (c : Cfg) (C : CallF) (ops : Array Oper)
def dstI (i : Nat) : Option Tmp := (ops[i]?).bind (·.dst)
def semT (vals : Nat → V) (t : List V) (S : Nat → Bool) : List Nat → List V
 | [] => t
 | i :: l => semT vals (if S i then putT t (dstI ops i) (vals i) else t) S l
theorem semT_put (vals : Nat → V) (S : Nat → Bool) (d : Option Tmp) (v : V) : ∀ (l : List Nat) (t : List V), (∀ j ∈ l, S j = true → ∀ x, dstI ops j = some x → d ≠ some x) →
  semT ops vals (putT t d v) S l = putT (semT ops vals t S l) d v
 | [], t, _ => rfl
 | j :: l, t, h => by
  unfold semT
  by_cases hj : S j = true
  ·rw [if_pos hj, if_pos hj, ← semT_put vals S d v l _ (fun k hk => h k (List.mem_cons_of_mem _ hk))]
   congr 1
   exact (putT_comm (fun x hx => h j List.mem_cons_self hj x hx)).symm
  ·rw [if_neg hj, if_neg hj]
   exact semT_put vals S d v l _ (fun k hk => h k (List.mem_cons_of_mem _ hk))
theorem semT_congr (vals : Nat → V) {S S' : Nat → Bool} : ∀ (l : List Nat) (t : List V), (∀ j ∈ l, S j = S' j) → semT ops vals t S l = semT ops vals t S' l
 | [], t, _ => rfl
 | j :: l, t, h => by
  unfold semT
  rw [h j List.mem_cons_self]
  exact semT_congr vals l _ (fun k hk => h k (List.mem_cons_of_mem _ hk))
def DstOk : Prop := ∀ i j x, dstI ops i = some x → dstI ops j = some x → i = j
theorem semT_add {vals : Nat → V} {S : Nat → Bool} (hd : DstOk ops) (i : Nat) (hi : S i = false) : ∀ (l : List Nat) (t : List V), l.Nodup → i ∈ l →
  semT ops vals t (fun j => j == i || S j) l = putT (semT ops vals t S l) (dstI ops i) (vals i)
 | [], t, _, hm => by cases hm
 | j :: l, t, hn, hm => by
  obtain ⟨n1, n2⟩ := List.nodup_cons.1 hn
  unfold semT
  by_cases hji : j = i
  ·subst hji
   simp only [beq_self_eq_true, Bool.true_or, if_true, hi]
   rw [semT_congr ops vals l _ (fun k hk => by
    have : (k == j) = false := by rw [beq_eq_false_iff_ne]; exact fun e => n1 (e ▸ hk)
    show (k == j || S k) = S k
    rw [this]; rfl) (S' := S)]
   rw [semT_put ops vals S _ _ l t (fun k hk _ x hx e => n1 (by
    have := hd j k x e hx
    rw [this]; exact hk))]
   rfl
  ·have hji2 : (j == i) = false := by rw [beq_eq_false_iff_ne]; exact hji
   simp only [hji2, Bool.false_or]
   exact semT_add hd i hi l _ n2 (by
    rcases List.mem_cons.1 hm with e | e
    ·exact absurd e.symm hji
    ·exact e)
theorem putT_len (t : List V) (d : Option Tmp) (v : V) : (putT t d v).length = t.length := by cases d <;> simp [putT]
theorem semT_old {vals : Nat → V} {S : Nat → Bool} {k : Nat} : ∀ (l : List Nat) (t : List V), (∀ j ∈ l, dstI ops j ≠ some k) → (semT ops vals t S l)[k]? = t[k]?
 | [], t, _ => rfl
 | j :: l, t, h => by
  unfold semT
  rw [semT_old l _ (fun i hi => h i (List.mem_cons_of_mem _ hi))]
  split
  ·exact putT_get (h j List.mem_cons_self)
  ·rfl
theorem semT_new {vals : Nat → V} {S : Nat → Bool} (hd : DstOk ops) {k i : Nat} (hk : dstI ops i = some k) (hs : S i = true) : ∀ (l : List Nat) (t : List V), l.Nodup → i ∈ l → k < t.length → (semT ops vals t S l)[k]? = some (vals i)
 | [], t, _, hm, _ => by cases hm
 | j :: l, t, hn, hm, hlt => by
  obtain ⟨n1, n2⟩ := List.nodup_cons.1 hn
  unfold semT
  by_cases hji : j = i
  ·subst hji
   rw [if_pos hs, semT_old ops l _ (fun m hm2 e => n1 (by
    have := hd j m k hk e
    rw [this]; exact hm2))]
   simp [putT, hk, hlt]
  ·exact semT_new hd hk hs l _ n2 (by
    rcases List.mem_cons.1 hm with e | e
    ·exact absurd e.symm hji
    ·exact e) (by split <;> simp [putT_len, hlt])
structure SemEv (vals : Nat → V) (t : List V) (S : Nat → Bool) (ev : Operand → V) : Prop where
 new : ∀ i k, dstI ops i = some k → S i = true → k < t.length → ev (.tmp k) = vals i
 old : ∀ k, (∀ j, j < ops.size → dstI ops j ≠ some k) → ev (.tmp k) = t.getD k .undef
 const : ∀ v, ev (.const v) = ofVal v
 func : ∀ f, ev (.func f) = .func (.func f) [] []
theorem semOk_of {s : St} (vals : Nat → V) (H : (Nat → Bool) → Heap) (hd : DstOk ops) (hg : ∀ (i : Nat) (o : Oper), ops[i]? = some o → o.guard = none) (hH : H (fun _ => false) = s.h)
  (step : ∀ (i : Nat) (o : Oper), ops[i]? = some o → ∀ (S : Nat → Bool) (ev : Operand → V), (∀ (k : Nat) (ok : Oper), ops[k]? = some ok → S k = true → ∀ e ∈ ok.after, Region.binds .any e = true → S e.on = true) → (∀ e ∈ o.after, Region.binds .any e = true → S e.on = true) → S i = false →
   SemEv ops vals s.t S ev → eff c C false (pivot ops i) (layPair c ops) (qPair c ops) o (some true) ev (H S) s.d s.p s.ro = some (.inl (vals i, H (fun j => j == i || S j), s.d, s.p)))
  (hHc : ∀ S S' : Nat → Bool, (∀ j, j < ops.size → S j = S' j) → H S = H S') (heb : edgesBack ops = true) : SemOk c C ops s := by
 have key : ∀ (fuel : Nat) (listed : Array Bool), listed.size = ops.size → (∀ (k : Nat) (ok : Oper), ops[k]? = some ok → listed.getD k false = true → ∀ e ∈ ok.after, Region.binds .any e = true → listed.getD e.on false = true) →
   ((List.range ops.size).filter fun i => !listed.getD i true).length ≤ fuel → ∀ l ∈ ordersG ops fuel listed,
   execOps c C false ops l { s with t := semT ops vals s.t (fun i => listed.getD i false) (List.range ops.size), h := H (fun i => listed.getD i false) } =
    some (.normal, { s with t := semT ops vals s.t (fun _ => true) (List.range ops.size), h := H (fun _ => true) }) := by
  intro fuel
  induction fuel with
  | zero =>
   intro listed hsz hcl hlen l hl
   simp only [ordersG, List.mem_singleton] at hl
   subst hl
   have hall : ∀ j, j < ops.size → listed.getD j false = true := by
    intro j hj
    have hnil := List.eq_nil_of_length_eq_zero (Nat.le_zero.1 hlen)
    rw [List.filter_eq_nil_iff] at hnil
    have := hnil j (List.mem_range.2 hj)
    have hjl : j < listed.size := by omega
    simp [Array.getD, hjl] at this ⊢
    exact this
   simp only [execOps]
   rw [semT_congr ops vals (List.range ops.size) s.t (S := fun i => listed.getD i false) (S' := fun _ => true) (fun j hj => hall j (List.mem_range.1 hj)), hHc (fun i => listed.getD i false) (fun _ => true) (fun j hj => hall j hj)]
  | succ fuel ih =>
   intro listed hsz hcl hlen l hl
   rw [ordersG] at hl
   by_cases hr : readyG ops listed = []
   ·rw [if_pos hr] at hl
    simp only [List.mem_singleton] at hl
    subst hl
    have hall : ∀ n, n ≤ ops.size → ∀ j, j < n → listed.getD j false = true := by
     intro n
     induction n with
     | zero => intro _ j hj; omega
     | succ n ihn =>
      intro hn j hj
      by_cases hjn : j < n
      ·exact ihn (by omega) j hjn
      ·have : j = n := by omega
       subst this
       have hjl : j < ops.size := by omega
       have hjs : j < listed.size := by omega
       have hoj : ops[j]? = some ops[j] := by simp [hjl]
       cases hls : listed.getD j false with
       | true => rfl
       | false =>
        exfalso
        have : j ∈ readyG ops listed := by
         unfold readyG
         rw [List.mem_filter]
         refine ⟨List.mem_range.2 hjl, ?_⟩
         have e1 : listed.getD j true = false := by
          simp [Array.getD, hjs] at hls ⊢; exact hls
         rw [e1, hoj]
         simp only [Bool.not_false, Option.map_some, Option.getD_some, Bool.true_and]
         rw [Array.all_eq_true_iff_forall_mem]
         intro e he
         by_cases hb : Region.binds .any e = true
         ·rw [ihn (by omega) _ (edgesBack_spec heb hoj e he hb)]; simp
         ·simp [hb]
        rw [hr] at this; cases this
    have hall' := fun j (hj : j < ops.size) => hall ops.size (Nat.le_refl _) j hj
    simp only [execOps]
    rw [semT_congr ops vals (List.range ops.size) s.t (S := fun i => listed.getD i false) (S' := fun _ => true) (fun j hj => hall' j (List.mem_range.1 hj)), hHc (fun i => listed.getD i false) (fun _ => true) (fun j hj => hall' j hj)]
   ·rw [if_neg hr] at hl
    obtain ⟨x, hx, hl⟩ := List.mem_flatMap.1 hl
    obtain ⟨l', hl', rfl⟩ := List.mem_map.1 hl
    unfold readyG at hx
    rw [List.mem_filter] at hx
    obtain ⟨hx1, hx2⟩ := hx
    have hxl := List.mem_range.1 hx1
    have hxs : x < listed.size := by omega
    have hox : ops[x]? = some ops[x] := by simp [hxl]
    simp only [Bool.and_eq_true, hox, Option.map_some, Option.getD_some, Bool.not_eq_true'] at hx2
    obtain ⟨hx2, hx3⟩ := hx2
    have hxf : listed.getD x false = false := by simp [Array.getD, hxs] at hx2 ⊢; exact hx2
    have hdep : ∀ e ∈ (ops[x]).after, Region.binds .any e = true → listed.getD e.on false = true := by
     intro e he hb
     rw [Array.all_eq_true_iff_forall_mem] at hx3
     have := hx3 e he
     simpa [hb] using this
    have hst := step x _ hox (fun i => listed.getD i false) (evT c (semT ops vals s.t (fun i => listed.getD i false) (List.range ops.size))) hcl hdep hxf ⟨fun i k hk hs hlt => by
      have hi : i < ops.size := by
       unfold dstI at hk
       cases ho : ops[i]? with
       | none => rw [ho] at hk; cases hk
       | some o => exact (Array.getElem?_eq_some_iff.1 ho).1
      simp only [evT, List.getD_eq_getElem?_getD]
      rw [semT_new ops hd hk hs _ _ List.nodup_range (List.mem_range.2 hi) hlt]; rfl,
     fun k hk => by
      simp only [evT, List.getD_eq_getElem?_getD]
      rw [semT_old ops _ _ (fun j hj => hk j (List.mem_range.1 hj))], fun v => rfl, fun f => rfl⟩
    rw [execOps_cons, hox]
    simp only
    have hw : wantedV ops ops[x] (semT ops vals s.t (fun i => listed.getD i false) (List.range ops.size)) = some true := by
     unfold wantedV; rw [hg x _ hox]
    rw [hw, hst]
    simp only
    have hset : (fun i => (listed.setIfInBounds x true).getD i false) = fun j => j == x || listed.getD j false := by
     funext j
     by_cases hjx : x = j
     ·subst hjx; simp [hxs]
     ·rw [getD_set_ne false hjx]
      have : (j == x) = false := by simp; omega
      rw [this]; rfl
    have ih' := ih (listed.setIfInBounds x true) (by simpa using hsz) (by
     intro k ok hk hls e he hb
     by_cases hkx : k = x
     ·subst hkx
      rw [hox] at hk
      simp only [Option.some.injEq] at hk
      subst hk
      exact getD_set_true (hdep e he hb)
     ·rw [getD_set_ne false (Ne.symm hkx)] at hls
      exact getD_set_true (hcl k ok hk hls e he hb)) (by
     have : ((List.range ops.size).filter fun i => !(listed.setIfInBounds x true).getD i true).length < ((List.range ops.size).filter fun i => !listed.getD i true).length := by
      have e1 : ((List.range ops.size).filter fun i => !(listed.setIfInBounds x true).getD i true) = ((List.range ops.size).filter fun i => !listed.getD i true).filter fun i => i != x := by
       rw [List.filter_filter]
       apply List.filter_congr
       intro j hj
       by_cases hjx : x = j
       ·subst hjx; simp [hxs]
       ·rw [getD_set_ne true hjx]
        have : (j != x) = true := by simp; omega
        simp [this]
      rw [e1]
      apply List.length_filter_lt_length_iff_exists.2
      exact ⟨x, by rw [List.mem_filter]; exact ⟨hx1, by rw [hx2]; rfl⟩, by simp⟩
     omega) l' hl'
    rw [hset] at ih'
    have hde : (ops[x]).dst = dstI ops x := by unfold dstI; rw [hox]; rfl
    unfold aft
    simp only
    rw [hde, ← semT_add ops hd x hxf (List.range ops.size) s.t List.nodup_range hx1]
    exact ih'
 have hfin : ∀ l ∈ ordersG ops ops.size (Array.replicate ops.size false), execOps c C false ops l s = some (.normal, { s with t := semT ops vals s.t (fun _ => true) (List.range ops.size), h := H (fun _ => true) }) := by
  intro l hl
  have h1 := key ops.size (Array.replicate ops.size false) (by simp) (fun k ok hk hls => by simp [Array.getD] at hls) (by
   have := List.length_filter_le (fun i => !(Array.replicate ops.size false).getD i true) (List.range ops.size)
   simpa using this) l hl
  have e0 : ∀ i, (Array.replicate ops.size false).getD i false = false := fun i => by simp [Array.getD]
  have e1 : (fun i => (Array.replicate ops.size false).getD i false) = fun _ => false := by funext i; exact e0 i
  rw [e1, hH] at h1
  have e2 : ∀ (l : List Nat) (t : List V), semT ops vals t (fun _ => false) l = t := by
   intro l
   induction l with
   | nil => intro t; rfl
   | cons j l ih => intro t; unfold semT; exact ih t
  rw [e2] at h1
  exact h1
 have htext : List.range ops.size ∈ ordersG ops ops.size (Array.replicate ops.size false) := by
  have gen : ∀ (n m : Nat) (listed : Array Bool), m + n = ops.size → listed.size = ops.size → (∀ j, j < m → listed.getD j true = true) → (∀ j, m ≤ j → j < ops.size → listed.getD j true = false) → (List.range' m n) ∈ ordersG ops n listed := by
   intro n
   induction n with
   | zero => intro m listed _ _ _ _; simp [ordersG]
   | succ n ih =>
    intro m listed hmn hsz h1 h2
    have hm : m < ops.size := by omega
    have hms : m < listed.size := by omega
    have hom : ops[m]? = some ops[m] := by simp [hm]
    have hready : m ∈ readyG ops listed := by
     unfold readyG
     rw [List.mem_filter]
     refine ⟨List.mem_range.2 hm, ?_⟩
     rw [h2 m (Nat.le_refl _) hm, hom]
     simp only [Bool.not_false, Option.map_some, Option.getD_some, Bool.true_and]
     rw [Array.all_eq_true_iff_forall_mem]
     intro e he
     by_cases hb : Region.binds .any e = true
     ·have hlt := edgesBack_spec heb hom e he hb
      have := h1 _ hlt
      have hes : e.on < listed.size := by omega
      simp [Array.getD, hes] at this ⊢
      right; exact this
     ·simp [hb]
    rw [ordersG, if_neg (fun e => by rw [e] at hready; cases hready), List.mem_flatMap]
    refine ⟨m, hready, ?_⟩
    rw [List.mem_map]
    refine ⟨List.range' (m + 1) n, ih (m + 1) _ (by omega) (by simpa using hsz) ?_ ?_, rfl⟩
    ·intro j hj
     by_cases hjm : m = j
     ·subst hjm; simp [hms]
     ·rw [getD_set_ne true hjm]; exact h1 j (by omega)
    ·intro j hj hj2
     rw [getD_set_ne true (by omega)]; exact h2 j (by omega) hj2
  have := gen ops.size 0 (Array.replicate ops.size false) (by omega) (by simp) (fun j hj => by omega) (fun j _ hj => by simp [Array.getD, hj])
  rwa [List.range_eq_range']
 intro l hl
 exact ⟨_, hfin l hl, hfin _ htext⟩
end
theorem wp_sem {c : Cfg} {K : List Fr} {Q : Ax → St → Prop} {id : Nat} {ops : Array Oper} {s : St} (hn : (drawOk c ops || drawOkT c ops s.t s.h) = false) (h : SemOk c (Ci c) ops s) (k : wo c false ops 0 ops.toList s K Q) (hR : hasR c ops = false := by kernel_rfl) : wp c (.region id ops true) s K Q := by
 unfold wo at k; unfold wp
 have hx : Ei c (.region id ops true) s = execOps c (Ci c) false ops (List.range ops.size) s := by
  rw [Ei_eq]
  simp only [execS]
  rw [if_pos (by rw [hn]; rfl), semRun2_no hR]
  unfold semRun
  rw [if_pos h]
 rw [hx, execOps_list]; exact k
theorem text_order {ops : Array Oper} (heb : edgesBack ops = true) : List.range ops.size ∈ ordersG ops ops.size (Array.replicate ops.size false) := by
 have gen : ∀ (n m : Nat) (listed : Array Bool), m + n = ops.size → listed.size = ops.size → (∀ j, j < m → listed.getD j true = true) → (∀ j, m ≤ j → j < ops.size → listed.getD j true = false) → (List.range' m n) ∈ ordersG ops n listed := by
  intro n
  induction n with
  | zero => intro m listed _ _ _ _; simp [ordersG]
  | succ n ih =>
   intro m listed hmn hsz h1 h2
   have hm : m < ops.size := by omega
   have hms : m < listed.size := by omega
   have hom : ops[m]? = some ops[m] := by simp [hm]
   have hready : m ∈ readyG ops listed := by
    unfold readyG
    rw [List.mem_filter]
    refine ⟨List.mem_range.2 hm, ?_⟩
    rw [h2 m (Nat.le_refl _) hm, hom]
    simp only [Bool.not_false, Option.map_some, Option.getD_some, Bool.true_and]
    rw [Array.all_eq_true_iff_forall_mem]
    intro e he
    by_cases hb : Region.binds .any e = true
    ·have hlt := edgesBack_spec heb hom e he hb
     have := h1 _ hlt
     have hes : e.on < listed.size := by omega
     simp [Array.getD, hes] at this ⊢
     right; exact this
    ·simp [hb]
   rw [ordersG, if_neg (fun e => by rw [e] at hready; cases hready), List.mem_flatMap]
   refine ⟨m, hready, ?_⟩
   rw [List.mem_map]
   refine ⟨List.range' (m + 1) n, ih (m + 1) _ (by omega) (by simpa using hsz) ?_ ?_, rfl⟩
   ·intro j hj
    by_cases hjm : m = j
    ·subst hjm; simp [hms]
    ·rw [getD_set_ne true hjm]; exact h1 j (by omega)
   ·intro j hj hj2
    rw [getD_set_ne true (by omega)]; exact h2 j (by omega) hj2
 have := gen ops.size 0 (Array.replicate ops.size false) (by omega) (by simp) (fun j hj => by omega) (fun j _ hj => by simp [Array.getD, hj])
 rwa [List.range_eq_range']
theorem wp_semP {c : Cfg} {K : List Fr} {Q : Ax → St → Prop} {id : Nat} {ops : Array Oper} {s r : St} {v : V} (hn : (drawOk c ops || drawOkT c ops s.t s.h) = false) (h : SemP c (Ci c) ops s v r) (k : ∀ s', flatS ops s' = r → dn c (.panic v) s' K Q) (heb : edgesBack ops = true := by kernel_rfl) (hR : hasR c ops = false := by kernel_rfl) : wp c (.region id ops true) s K Q := by
 obtain ⟨s1, h1, h2⟩ := h _ (text_order heb)
 have hx : ∃ s', Ei c (.region id ops true) s = some (.panic v, s') ∧ flatS ops s' = r := by
  rw [Ei_eq]
  simp only [execS]
  rw [if_pos (by rw [hn]; rfl), semRun2_no hR]
  unfold semRun
  split
  ·exact ⟨s1, h1, h2⟩
  ·rw [h1]
   subst h2
   exact ⟨_, semPan_is h, by unfold flatS; simp only [killT_idem]⟩
 obtain ⟨s', e1, e2⟩ := hx
 have := k s' e2
 unfold wp; unfold dn at this
 rw [e1]; exact this
theorem wp_sem2 {c : Cfg} {K : List Fr} {Q : Ax → St → Prop} {id : Nat} {ops : Array Oper} {s : St} (h : SemOk c (Ci c) ops s) (k0 : wo c true ops 0 ops.toList s K Q) (k : wo c false ops 0 ops.toList s K Q) (hR : hasR c ops = false := by kernel_rfl) : wp c (.region id ops true) s K Q := by
 by_cases hn : (drawOk c ops || drawOkT c ops s.t s.h) = true
 ·rw [Bool.or_eq_true] at hn
  rcases hn with hn | hn
  ·exact wp_draw c hn k0
  ·exact wp_drawT c hn k0
 ·exact wp_sem (by simpa using hn) h k hR
def Qfin (c : Cfg) (rs : List ResultVar) (x : CRes × Heap) (ax : Ax) (s : St) : Prop := finS c rs (some (ax, s)) = some x
@[simp] theorem Qfin_normal (c : Cfg) (rs : List ResultVar) (x : CRes × Heap) (s : St) : Qfin c rs x .normal s = (finM c rs s .ret = some x) := rfl
@[simp] theorem Qfin_ret (c : Cfg) (rs : List ResultVar) (x : CRes × Heap) (s : St) : Qfin c rs x .ret s = (finM c rs s .ret = some x) := rfl
@[simp] theorem Qfin_panic (c : Cfg) (rs : List ResultVar) (x : CRes × Heap) (v : V) (s : St) : Qfin c rs x (.panic v) s = (finM c rs s (.pan v) = some x) := rfl
theorem Ci_of_wp {c : Cfg} {f : FuncId} {fn : Func} {code : Code} {first args cap : List V} {h : Heap} {x : CRes × Heap} (hf : c.P.funcs[f]? = some fn) (hb : fn.body = some code) (hl : (first ++ args ++ cap).length ≤ fn.ntmps) (hp : c.pure f = false)
  (k : wp c code ⟨tab fn.ntmps (lf (first ++ args ++ cap)), h, [], .no, none⟩ [] (Qfin c fn.results.toList x)) (hnb : c.natb f = false := by rfl) : Ci c (.func (.func f) first cap) args h = some x := by
 rw [Ci_eq]
 simp only [callS, hp, hnb]
 rw [if_neg (by simp), if_neg (by simp), bodyS_fin c hf hb, initT_tab hl]
 unfold wp at k
 simp only [thr] at k
 cases hx : Ei c code ⟨tab fn.ntmps (lf (first ++ args ++ cap)), h, [], .no, none⟩ with
 | none => rw [hx] at k; cases k
 | some y => obtain ⟨ax, s⟩ := y; rw [hx] at k; exact k
end Go.Ab
namespace Go.Ab
def QfinE (c : Cfg) (rs : List ResultVar) (P : CRes × Heap → Prop) (ax : Ax) (s : St) : Prop := ∃ x, finS c rs (some (ax, s)) = some x ∧ P x
@[simp] theorem QfinE_normal (c : Cfg) (rs : List ResultVar) (P : CRes × Heap → Prop) (s : St) : QfinE c rs P .normal s = ∃ x, finM c rs s .ret = some x ∧ P x := rfl
@[simp] theorem QfinE_ret (c : Cfg) (rs : List ResultVar) (P : CRes × Heap → Prop) (s : St) : QfinE c rs P .ret s = ∃ x, finM c rs s .ret = some x ∧ P x := rfl
theorem Ci_of_wpE {c : Cfg} {f : FuncId} {fn : Func} {code : Code} {first args cap : List V} {h : Heap} {P : CRes × Heap → Prop} (hf : c.P.funcs[f]? = some fn) (hb : fn.body = some code) (hl : (first ++ args ++ cap).length ≤ fn.ntmps) (hp : c.pure f = false)
  (k : wp c code ⟨tab fn.ntmps (lf (first ++ args ++ cap)), h, [], .no, none⟩ [] (QfinE c fn.results.toList P)) (hnb : c.natb f = false := by rfl) : ∃ x, Ci c (.func (.func f) first cap) args h = some x ∧ P x := by
 unfold wp at k
 simp only [thr] at k
 cases hx : Ei c code ⟨tab fn.ntmps (lf (first ++ args ++ cap)), h, [], .no, none⟩ with
 | none => rw [hx] at k; cases k
 | some y =>
  obtain ⟨ax, s⟩ := y
  rw [hx] at k
  obtain ⟨x, h1, h2⟩ := k
  refine ⟨x, ?_, h2⟩
  rw [Ci_eq]
  simp only [callS, hp, hnb]
  rw [if_neg (by simp), if_neg (by simp), bodyS_fin c hf hb, initT_tab hl, hx]
  exact h1
end Go.Ab
namespace Go.Ab
def pairsG (P : Oper → Oper → Bool) (m : Nat) (y : Oper) : List Oper → Nat → Bool
 | [], _ => true
 | x :: r, k => (m.testBit (k - 1) || P x y) && pairsG P m y r (k - 1)
def chkG (P : Oper → Oper → Bool) : List Oper → Nat → List Nat → List Oper → Bool
 | [], _, _, _ => true
 | o :: l, k, macc, prev => pairsG P (mstep macc k o) o prev k && chkG P l (k + 1) (mstep macc k o :: macc) (o :: prev)
def apartG (P : Oper → Oper → Bool) (ops : Array Oper) : Bool := chkG P ops.toList 0 [] []
def layP (c : Cfg) (x y : Oper) : Bool := !(isLoad x && lcall c y || lcall c x && isLoad y)
def qP (c : Cfg) (x y : Oper) : Bool := !(clsOf c x == 3 && lcall c y || lcall c x && clsOf c y == 3)
def callF (c : Cfg) (ops : Array Oper) (o : Oper) (f : V) (cl : Bool) : Bool := if clsOf c o == 0 then cl else (quietV c f && cl) || ((layV c f || apartG (layP c) ops) && apartG (qP c) ops)
end Go.Ab
namespace Go.Ab
open Go.RowKit (Below)
def NS (c : Cfg) (code : Code) (s : St) (Q : Ax → St → Prop) : Prop :=
 ∀ (g : Gh) (n0 : Nat) (K : Ctx) (b : Frame) (a : Act) (w : World) (k : List Item), StRel c g n0 K b s a w →
  ∃ ax s' g' a' w', Q ax s' ∧ Good n0 g w g' w' ∧ StRel c g' n0 K b s' a' w' ∧ Arr c.P g' (lone (b.atR a (.code code :: k)) (K.cs s.p) w) b k (K.cs s'.p) ax a' w'
def NR (c : Cfg) (ops : Array Oper) (l : List Nat) (s : St) (Q : Ax → St → Prop) : Prop :=
 ∀ (g : Gh) (n0 : Nat) (K : Ctx) (b : Frame) (a : Act) (w : World) (k : List Item), StRel c g n0 K b s a w →
  ∃ ax s' g' a' w', Q ax s' ∧ Good n0 g w g' w' ∧ StRel c g' n0 K b s' a' w' ∧ Arr c.P g' (lone (b.atR a (.inRegion ops l :: k)) (K.cs s.p) w) b k (K.cs s'.p) ax a' w'
section
variable {c : Cfg}
def nk (c : Cfg) : List Fr → (Ax → St → Prop) → Ax → St → Prop
 | [], Q, ax, s => Q ax s
 | .seq b :: K, Q, .normal, s => NS c b s (nk c K Q)
 | .seq _ :: K, Q, ax, s => nk c K Q ax s
 | .block id :: K, Q, .exit i, s => if i = id then nk c K Q .normal s else nk c K Q (.exit i) s
 | .block _ :: K, Q, ax, s => nk c K Q ax s
 | .loop b :: K, Q, .normal, s => NS c (.loop b) s (nk c K Q)
 | .loop _ :: K, Q, ax, s => nk c K Q ax s
 | _ :: _, _, _, _ => False
def NSf (c : Cfg) (code : Code) (s : St) (K : List Fr) (Q : Ax → St → Prop) : Prop := NS c code s (nk c K Q)
variable {K : List Fr} {Q : Ax → St → Prop} {s : St} {a b : Code}
@[congr] theorem NSf_congr {s' : St} (h : s = s') : NSf c a s K Q = NSf c a s' K Q := by rw [h]
@[congr] theorem nk_congr {ax ax' : Ax} {s' : St} (h1 : ax = ax') (h : s = s') : nk c K Q ax s = nk c K Q ax' s' := by rw [h1, h]
@[simp] theorem nk_nil (ax : Ax) : nk c [] Q ax s = Q ax s := by cases ax <;> rfl
@[simp] theorem nk_seq : nk c (.seq b :: K) Q .normal s = NSf c b s K Q := rfl
@[simp] theorem nk_seq_exit (i : Nat) : nk c (.seq b :: K) Q (.exit i) s = nk c K Q (.exit i) s := rfl
@[simp] theorem nk_seq_ret : nk c (.seq b :: K) Q .ret s = nk c K Q .ret s := rfl
@[simp] theorem nk_seq_panic (v : V) : nk c (.seq b :: K) Q (.panic v) s = nk c K Q (.panic v) s := rfl
@[simp] theorem nk_block (id : Nat) : nk c (.block id :: K) Q .normal s = nk c K Q .normal s := rfl
@[simp] theorem nk_block_exit (id i : Nat) : nk c (.block id :: K) Q (.exit i) s = if i = id then nk c K Q .normal s else nk c K Q (.exit i) s := rfl
@[simp] theorem nk_block_ret (id : Nat) : nk c (.block id :: K) Q .ret s = nk c K Q .ret s := rfl
@[simp] theorem nk_block_panic (id : Nat) (v : V) : nk c (.block id :: K) Q (.panic v) s = nk c K Q (.panic v) s := rfl
@[simp] theorem nk_loop : nk c (.loop b :: K) Q .normal s = NSf c (.loop b) s K Q := rfl
@[simp] theorem nk_loop_exit (i : Nat) : nk c (.loop b :: K) Q (.exit i) s = nk c K Q (.exit i) s := rfl
@[simp] theorem nk_loop_ret : nk c (.loop b :: K) Q .ret s = nk c K Q .ret s := rfl
@[simp] theorem nk_loop_panic (v : V) : nk c (.loop b :: K) Q (.panic v) s = nk c K Q (.panic v) s := rfl
def NB (c : Cfg) (f : FuncId) (args : List V) (h : Heap) (X : CRes → Heap → Prop) : Prop :=
 ∀ (g : Gh) (n0 : Nat) (w : World) (vs : Array Value), Inv g n0 h w → GlobOk c g → RepL g args vs.toList →
  (callFunc f vs).run c.P w = .ok (.enter f vs) w ∧ ∀ cs, ∃ r h' g' w' frL, X r h' ∧ Good n0 g w g' w' ∧ Inv g' n0 h' w' ∧ Steps c.P (lone (Frame.enter c.P f vs .normal) cs w) (lone frL cs w') ∧ frL.fn = f ∧ LeaveR c.P g' frL w' r
def QfinN (c : Cfg) (rs : List ResultVar) (X : CRes → Heap → Prop) (ax : Ax) (s : St) : Prop := ∃ x, finS c rs (some (ax, s)) = some x ∧ X x.1 x.2
@[simp] theorem QfinN_normal (rs : List ResultVar) (X : CRes → Heap → Prop) (s : St) : QfinN c rs X .normal s = ∃ x, finM c rs s .ret = some x ∧ X x.1 x.2 := rfl
@[simp] theorem QfinN_ret (rs : List ResultVar) (X : CRes → Heap → Prop) (s : St) : QfinN c rs X .ret s = ∃ x, finM c rs s .ret = some x ∧ X x.1 x.2 := rfl
@[simp] theorem QfinN_panic (rs : List ResultVar) (X : CRes → Heap → Prop) (s : St) (v : V) : QfinN c rs X (.panic v) s = ∃ x, finM c rs s (.pan v) = some x ∧ X x.1 x.2 := rfl
theorem NS.mono {Q Q' : Ax → St → Prop} (h : NS c a s Q) (hq : ∀ ax s, Q ax s → Q' ax s) : NS c a s Q' := by
 intro g n0 C f t w k hr
 obtain ⟨ax, s1, g1, a1, w1, h1, h2⟩ := h g n0 C f t w k hr
 exact ⟨ax, s1, g1, a1, w1, hq _ _ h1, h2⟩
def noNextO (o : Oper) : Bool := match o.op with
 | .next _ _ => false
 | _ => true
def noNext : Code → Bool
 | .region _ ops _ => ops.toList.all noNextO
 | .seq a b | .cond _ a b => noNext a && noNext b
 | .block _ b | .loop b | .scope b => noNext b
 | .rangeFunc _ _ a b => noNext a && noNext b
 | _ => true
end
end Go.Ab
namespace Go.Ab
set_option maxRecDepth 100000
section
variable (c : Cfg) (ops : Array Oper)
def StepE (base : Nat) (vals : Nat → V) (H : (Nat → Bool) → Heap) (i : Nat) (o : Oper) (ev : Operand → V) (S : Nat → Bool) : Prop :=
 if isLayR c o = true then ∃ cs, layR c ev o (base + rankR c ops i) = some (vals i, cs) ∧ (H S).bs[base + rankR c ops i]? = some .res ∧ H (fun j => j == i || S j) = { H S with bs := (H S).bs.set (base + rankR c ops i) (.cells cs) }
 else opR c (H S) ev o = some (.val (vals i) (H (fun j => j == i || S j))) ∨ (opR c (H S) ev o = some (.skip (H (fun j => j == i || S j))) ∧ vals i = .tuple [])
theorem semOkR_of {s : St} (base : Nat) (hbase : base = s.h.bs.length) (vals : Nat → V) (H : (Nat → Bool) → Heap) (hd : DstOk ops) (hg : ∀ (i : Nat) (o : Oper), ops[i]? = some o → o.guard = none) (hH : H (fun _ => false) = (reserveR c ops s).h)
  (step : ∀ (i : Nat) (o : Oper), ops[i]? = some o → ∀ (S : Nat → Bool) (ev : Operand → V), (∀ (k : Nat) (ok : Oper), ops[k]? = some ok → S k = true → ∀ e ∈ ok.after, Region.binds .any e = true → S e.on = true) → (∀ e ∈ o.after, Region.binds .any e = true → S e.on = true) → S i = false →
   SemEv ops vals s.t S ev → StepE c ops base vals H i o ev S)
  (hHc : ∀ S S' : Nat → Bool, (∀ j, j < ops.size → S j = S' j) → H S = H S') (heb : edgesBack ops = true) : SemOkR c ops s { s with t := semT ops vals s.t (fun _ => true) (List.range ops.size), h := H (fun _ => true) } := by
 have key : ∀ (fuel : Nat) (listed : Array Bool), listed.size = ops.size → (∀ (k : Nat) (ok : Oper), ops[k]? = some ok → listed.getD k false = true → ∀ e ∈ ok.after, Region.binds .any e = true → listed.getD e.on false = true) →
   ((List.range ops.size).filter fun i => !listed.getD i true).length ≤ fuel → ∀ l ∈ ordersG ops fuel listed,
   runR c ops base l { s with t := semT ops vals s.t (fun i => listed.getD i false) (List.range ops.size), h := H (fun i => listed.getD i false) } =
    some { s with t := semT ops vals s.t (fun _ => true) (List.range ops.size), h := H (fun _ => true) } := by
  intro fuel
  induction fuel with
  | zero =>
   intro listed hsz hcl hlen l hl
   simp only [ordersG, List.mem_singleton] at hl
   subst hl
   have hall : ∀ j, j < ops.size → listed.getD j false = true := by
    intro j hj
    have hnil := List.eq_nil_of_length_eq_zero (Nat.le_zero.1 hlen)
    rw [List.filter_eq_nil_iff] at hnil
    have := hnil j (List.mem_range.2 hj)
    have hjl : j < listed.size := by omega
    simp [Array.getD, hjl] at this ⊢
    exact this
   simp only [runR]
   rw [semT_congr ops vals (List.range ops.size) s.t (S := fun i => listed.getD i false) (S' := fun _ => true) (fun j hj => hall j (List.mem_range.1 hj)), hHc (fun i => listed.getD i false) (fun _ => true) (fun j hj => hall j hj)]
  | succ fuel ih =>
   intro listed hsz hcl hlen l hl
   rw [ordersG] at hl
   by_cases hr : readyG ops listed = []
   ·rw [if_pos hr] at hl
    simp only [List.mem_singleton] at hl
    subst hl
    have hall : ∀ n, n ≤ ops.size → ∀ j, j < n → listed.getD j false = true := by
     intro n
     induction n with
     | zero => intro _ j hj; omega
     | succ n ihn =>
      intro hn j hj
      by_cases hjn : j < n
      ·exact ihn (by omega) j hjn
      ·have : j = n := by omega
       subst this
       have hjl : j < ops.size := by omega
       have hjs : j < listed.size := by omega
       have hoj : ops[j]? = some ops[j] := by simp [hjl]
       cases hls : listed.getD j false with
       | true => rfl
       | false =>
        exfalso
        have : j ∈ readyG ops listed := by
         unfold readyG
         rw [List.mem_filter]
         refine ⟨List.mem_range.2 hjl, ?_⟩
         have e1 : listed.getD j true = false := by
          simp [Array.getD, hjs] at hls ⊢; exact hls
         rw [e1, hoj]
         simp only [Bool.not_false, Option.map_some, Option.getD_some, Bool.true_and]
         rw [Array.all_eq_true_iff_forall_mem]
         intro e he
         by_cases hb : Region.binds .any e = true
         ·rw [ihn (by omega) _ (edgesBack_spec heb hoj e he hb)]; simp
         ·simp [hb]
        rw [hr] at this; cases this
    have hall' := fun j (hj : j < ops.size) => hall ops.size (Nat.le_refl _) j hj
    simp only [runR]
    rw [semT_congr ops vals (List.range ops.size) s.t (S := fun i => listed.getD i false) (S' := fun _ => true) (fun j hj => hall' j (List.mem_range.1 hj)), hHc (fun i => listed.getD i false) (fun _ => true) (fun j hj => hall' j hj)]
   ·rw [if_neg hr] at hl
    obtain ⟨x, hx, hl⟩ := List.mem_flatMap.1 hl
    obtain ⟨l', hl', rfl⟩ := List.mem_map.1 hl
    unfold readyG at hx
    rw [List.mem_filter] at hx
    obtain ⟨hx1, hx2⟩ := hx
    have hxl := List.mem_range.1 hx1
    have hxs : x < listed.size := by omega
    have hox : ops[x]? = some ops[x] := by simp [hxl]
    simp only [Bool.and_eq_true, hox, Option.map_some, Option.getD_some, Bool.not_eq_true'] at hx2
    obtain ⟨hx2, hx3⟩ := hx2
    have hxf : listed.getD x false = false := by simp [Array.getD, hxs] at hx2 ⊢; exact hx2
    have hdep : ∀ e ∈ (ops[x]).after, Region.binds .any e = true → listed.getD e.on false = true := by
     intro e he hb
     rw [Array.all_eq_true_iff_forall_mem] at hx3
     have := hx3 e he
     simpa [hb] using this
    have hst := step x _ hox (fun i => listed.getD i false) (evT c (semT ops vals s.t (fun i => listed.getD i false) (List.range ops.size))) hcl hdep hxf ⟨fun i k hk hs hlt => by
      have hi : i < ops.size := by
       unfold dstI at hk
       cases ho : ops[i]? with
       | none => rw [ho] at hk; cases hk
       | some o => exact (Array.getElem?_eq_some_iff.1 ho).1
      simp only [evT, List.getD_eq_getElem?_getD]
      rw [semT_new ops hd hk hs _ _ List.nodup_range (List.mem_range.2 hi) hlt]; rfl,
     fun k hk => by
      simp only [evT, List.getD_eq_getElem?_getD]
      rw [semT_old ops _ _ (fun j hj => hk j (List.mem_range.1 hj))], fun v => rfl, fun f => rfl⟩
    have hgx := hg x _ hox
    have hone : stepR c ops base x { s with t := semT ops vals s.t (fun i => listed.getD i false) (List.range ops.size), h := H (fun i => listed.getD i false) } =
      some { s with t := putT (semT ops vals s.t (fun i => listed.getD i false) (List.range ops.size)) (ops[x]).dst (vals x), h := H (fun j => j == x || listed.getD j false) } := by
     unfold stepR
     rw [hox]
     simp only [hgx, Option.isSome_none, Bool.false_eq_true, if_false]
     unfold StepE at hst
     split at hst
     ·rename_i hlay
      obtain ⟨cs, q1, q2, q3⟩ := hst
      rw [if_pos hlay]
      simp only [q1, q2, q3]
     ·rename_i hlay
      rw [if_neg hlay]
      rcases hst with q | ⟨q, q2⟩
      ·simp only [q]
      ·simp only [q, q2]
    simp only [runR, hone]
    have hset : (fun i => (listed.setIfInBounds x true).getD i false) = fun j => j == x || listed.getD j false := by
     funext j
     by_cases hjx : x = j
     ·subst hjx; simp [hxs]
     ·rw [getD_set_ne false hjx]
      have : (j == x) = false := by simp; omega
      rw [this]; rfl
    have ih' := ih (listed.setIfInBounds x true) (by simpa using hsz) (by
     intro k ok hk hls e he hb
     by_cases hkx : k = x
     ·subst hkx
      rw [hox] at hk
      simp only [Option.some.injEq] at hk
      subst hk
      exact getD_set_true (hdep e he hb)
     ·rw [getD_set_ne false (Ne.symm hkx)] at hls
      exact getD_set_true (hcl k ok hk hls e he hb)) (by
     have : ((List.range ops.size).filter fun i => !(listed.setIfInBounds x true).getD i true).length < ((List.range ops.size).filter fun i => !listed.getD i true).length := by
      have e1 : ((List.range ops.size).filter fun i => !(listed.setIfInBounds x true).getD i true) = ((List.range ops.size).filter fun i => !listed.getD i true).filter fun i => i != x := by
       rw [List.filter_filter]
       apply List.filter_congr
       intro j hj
       by_cases hjx : x = j
       ·subst hjx; simp [hxs]
       ·rw [getD_set_ne true hjx]
        have : (j != x) = true := by simp; omega
        simp [this]
      rw [e1]
      apply List.length_filter_lt_length_iff_exists.2
      exact ⟨x, by rw [List.mem_filter]; exact ⟨hx1, by rw [hx2]; rfl⟩, by simp⟩
     omega) l' hl'
    rw [hset] at ih'
    have hde : (ops[x]).dst = dstI ops x := by unfold dstI; rw [hox]; rfl
    rw [hde, ← semT_add ops hd x hxf (List.range ops.size) s.t List.nodup_range hx1]
    exact ih'
 have hfin : ∀ l ∈ ordersG ops ops.size (Array.replicate ops.size false), runR c ops base l (reserveR c ops s) = some { s with t := semT ops vals s.t (fun _ => true) (List.range ops.size), h := H (fun _ => true) } := by
  intro l hl
  have h1 := key ops.size (Array.replicate ops.size false) (by simp) (fun k ok hk hls => by simp [Array.getD] at hls) (by
   have := List.length_filter_le (fun i => !(Array.replicate ops.size false).getD i true) (List.range ops.size)
   simpa using this) l hl
  have e0 : ∀ i, (Array.replicate ops.size false).getD i false = false := fun i => by simp [Array.getD]
  have e1 : (fun i => (Array.replicate ops.size false).getD i false) = fun _ => false := by funext i; exact e0 i
  rw [e1, hH] at h1
  have e2 : ∀ (l : List Nat) (t : List V), semT ops vals t (fun _ => false) l = t := by
   intro l
   induction l with
   | nil => intro t; rfl
   | cons j l ih => intro t; unfold semT; exact ih t
  rw [e2] at h1
  exact h1
 intro l hl
 rw [← hbase]
 exact hfin l hl
end
theorem wp_semR {c : Cfg} {K : List Fr} {Q : Ax → St → Prop} {id : Nat} {ops : Array Oper} {s r : St} (hP : PrOk c.P) (hn : (drawOk c ops || drawOkT c ops s.t s.h) = false) (hR : hasR c ops = true) (h : SemOkR c ops s r) (k : dn c .normal r K Q) : wp c (.region id ops true) s K Q := by
 unfold wp
 unfold dn at k
 have hx : Ei c (.region id ops true) s = some (.normal, r) := by
  rw [Ei_eq]
  simp only [execS]
  rw [if_pos (by rw [hn]; rfl)]
  exact semRun2_yes hR h ⟨_, ordOk hP ops 0⟩
 rw [hx]; exact k
end Go.Ab

namespace Go.Ab
theorem DD {p : Prop} (h : p := by first | assumption | omega | (simp; done) | (simp; omega)) : p := h
theorem wA {c : Cfg} {a b : Code} {s : St} {K : List Fr} {Q : Ax → St → Prop} {x : Bool} (h1 : x = true → wp c a s K Q) (h2 : x = false → wp c b s K Q) : wpc c (.bool x) a b s K Q := wpc_split c h1 h2
theorem wB {c : Cfg} {q : Bool} {ops : Array Oper} {i : Nat} {o : Oper} {l : List Oper} {s : St} {K : List Fr} {Q : Ax → St → Prop} {x : Bool} (h1 : x = true → wr c q ops i l o s K Q (opR c s.h (evT c s.t) o)) (h2 : x = false → wo c q ops (i + 1) l { s with t := putT s.t o.dst (.tuple []) } K Q) : ww c q ops i l o s K Q (some x) := ww_split c h1 h2
theorem wF {c : Cfg} {K : List Fr} {Q : Ax → St → Prop} {s : St} {id : Nat} {ops : Array Oper} (k : wo c true ops 0 ops.toList s K Q) (h : drawOkF c ops = true := by kernel_rfl) : wp c (.region id ops true) s K Q := wp_drawF h k
theorem wY {c : Cfg} {a : Nat} {args : List V} {h : Heap} {k : CC} {K : List Fr} {Q : Ax → St → Prop} (w : wyld c a args h k K Q h.bs[a]?) : wk c k K Q (Ci c (.yld a) args h) := wk_yldW c w
theorem wL {c : Cfg} {ops : Array Oper} {o : Oper} {f : V} {cl : Bool} {X : Prop} (k : X) (h : callB c ops o f cl = true := by kernel_rfl) : LayOwe c ops o f cl X := layOwe c h k
end Go.Ab

namespace Go.Ab
theorem gZ {α : Type} {a : α} {l : List α} : (a :: l)[0]? = some a := rfl
theorem gS {α : Type} {a : α} {l : List α} {i : Nat} : (a :: l)[i + 1]? = l[i]? := rfl
end Go.Ab
