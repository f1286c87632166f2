/- Rows of typed elements, and what the operations do to them. -/
import Derived.Test.YtdfpmhgfmmcopaaDoorAbsWp
set_option linter.unusedVariables false
set_option linter.unusedSimpArgs false
set_option linter.unusedSectionVars false
set_option linter.deprecated false
namespace Go.Ab

/-- How a type's values are laid as cells. -/
class EncC {α : Type} (E : α → List V) (sz : outParam Nat) : Prop where
  len : ∀ x, (E x).length = sz
  pos : 0 < sz
  one : ∀ x, (E x).all V.one = true
  closed : ∀ x, V.closed.closedL (E x) = true
  norm : ∀ x, V.norm.normL (E x) = E x

theorem closedL_append : ∀ a b : List V, V.closed.closedL (a ++ b) = (V.closed.closedL a && V.closed.closedL b)
  | [], b => by simp [V.closed.closedL]
  | x :: a, b => by simp [V.closed.closedL, closedL_append a b, Bool.and_assoc]
theorem normL_append : ∀ a b : List V, V.norm.normL (a ++ b) = V.norm.normL a ++ V.norm.normL b
  | [], b => by simp [V.norm.normL]
  | x :: a, b => by simp [V.norm.normL, normL_append a b]

def rows {α : Type} (E : α → List V) (l : List α) : List V := l.flatMap E
abbrev Fl := Bool × Bool × Option Nat
def R {α : Type} (fl : Fl) (E : α → List V) (l : List α) : V := .row fl.1 fl.2.1 (rows E l) l.length fl.2.2
abbrev fl0 : Fl := (false, false, none)

section
variable {α : Type} {E : α → List V} {sz : Nat}
@[simp] theorem rows_nil : rows E [] = [] := rfl
@[simp] theorem rows_cons (x : α) (l : List α) : rows E (x :: l) = E x ++ rows E l := by simp [rows]
@[simp] theorem rows_append (a b : List α) : rows E (a ++ b) = rows E a ++ rows E b := by simp [rows]
theorem rows_length [h : EncC E sz] : ∀ l : List α, (rows E l).length = l.length * sz
  | [] => by simp
  | x :: l => by simp [rows_length l, h.len, Nat.add_mul, Nat.add_comm]
theorem rows_drop [h : EncC E sz] : ∀ (i : Nat) (l : List α), (rows E l).drop (i * sz) = rows E (l.drop i)
  | 0, l => by simp
  | i + 1, [] => by simp
  | i + 1, x :: l => by
    rw [rows_cons, List.drop_succ_cons, ← rows_drop i l, Nat.add_mul, Nat.one_mul, Nat.add_comm, ← List.drop_drop]
    congr 1
    rw [List.drop_append_of_le_length (by rw [h.len]; exact Nat.le_refl _), List.drop_eq_nil_of_le (by rw [h.len]; exact Nat.le_refl _), List.nil_append]
theorem rows_take [h : EncC E sz] : ∀ (i : Nat) (l : List α), (rows E l).take (i * sz) = rows E (l.take i)
  | 0, l => by simp
  | i + 1, [] => by simp
  | i + 1, x :: l => by
    rw [rows_cons, List.take_succ_cons, rows_cons, ← rows_take i l, Nat.add_mul, Nat.one_mul, Nat.add_comm, List.take_append, h.len]
    congr 1
    · exact List.take_of_length_le (by rw [h.len]; omega)
    · congr 1; omega
@[simp] theorem rows_closed [h : EncC E sz] : ∀ l : List α, V.closed.closedL (rows E l) = true
  | [] => rfl
  | x :: l => by simp [closedL_append, h.closed, rows_closed l]
@[simp] theorem rows_norm [h : EncC E sz] : ∀ l : List α, V.norm.normL (rows E l) = rows E l
  | [] => rfl
  | x :: l => by simp [normL_append, h.norm, rows_norm l]
theorem rows_one [h : EncC E sz] : ∀ l : List α, (rows E l).all V.one = true
  | [] => rfl
  | x :: l => by simp only [rows_cons, List.all_append, h.one, rows_one l, Bool.and_self]
theorem rows_inj_len [h : EncC E sz] {a b : List α} (he : rows E a = rows E b) : a.length = b.length := by
  have := congrArg List.length he
  rw [rows_length, rows_length] at this
  exact Nat.eq_of_mul_eq_mul_right h.pos this
@[simp] theorem R_closed [h : EncC E sz] (fl : Fl) (l : List α) : (R fl E l).closed = true := by simp [R, V.closed]
@[simp] theorem R_norm [h : EncC E sz] (fl : Fl) (l : List α) : (R fl E l).norm = R fl0 E l := by simp [R, V.norm]
@[simp] theorem R_one (fl : Fl) (l : List α) : (R fl E l).one = true := rfl
@[simp] theorem R_cellsO (fl : Fl) (l : List α) : (R fl E l).cellsO = some [R fl E l] := rfl
end

/-! ### Encoders -/
def eI (x : Int) : List V := [.int .i64 x]
def eB (b : UInt8) : List V := [.int .u8 b.toNat]
def eBo (b : Bool) : List V := [.bool b]
def eS (s : List UInt8) : List V := [.str s]
def eR {α : Type} (E : α → List V) (l : List α) : List V := [R fl0 E l]
instance : EncC eI 1 := ⟨fun _ => rfl, by decide, fun _ => rfl, fun _ => rfl, fun _ => rfl⟩
instance : EncC eB 1 := ⟨fun _ => rfl, by decide, fun _ => rfl, fun _ => rfl, fun _ => rfl⟩
instance : EncC eBo 1 := ⟨fun _ => rfl, by decide, fun _ => rfl, fun _ => rfl, fun _ => rfl⟩
instance : EncC eS 1 := ⟨fun _ => rfl, by decide, fun _ => rfl, fun _ => rfl, fun _ => rfl⟩
instance {α : Type} {E : α → List V} {sz : Nat} [EncC E sz] : EncC (eR E) 1 :=
  ⟨fun _ => rfl, by decide, fun _ => by simp [eR], fun _ => by simp [eR, V.closed.closedL], fun _ => by simp [eR, V.norm.normL]⟩

/-- The i-th element (any, beyond the end). -/
def nth {α : Type} [Inhabited α] (l : List α) (i : Nat) : α := l.getD i default
section
variable {α : Type} [Inhabited α]
theorem nth_eq {l : List α} {i : Nat} (h : i < l.length) : nth l i = l[i] := by simp [nth, h]
theorem nth_some {l : List α} {i : Nat} (h : i < l.length) : l[i]? = some (nth l i) := by simp [nth, h]
theorem nth_drop {l : List α} {i : Nat} (h : i < l.length) : l.drop i = nth l i :: l.drop (i + 1) := by rw [nth_eq h]; exact List.drop_eq_getElem_cons h
theorem nth_take {l : List α} {i : Nat} (h : i < l.length) : l.take (i + 1) = l.take i ++ [nth l i] := by rw [nth_eq h, List.take_add_one, List.getElem?_eq_getElem h]; rfl
@[simp] theorem nth_zero (x : α) (l : List α) : nth (x :: l) 0 = x := rfl
@[simp] theorem nth_succ (x : α) (l : List α) (i : Nat) : nth (x :: l) (i + 1) = nth l i := by simp [nth]
theorem nth_mem {l : List α} {i : Nat} (h : i < l.length) : nth l i ∈ l := by rw [nth_eq h]; exact List.getElem_mem h
theorem nth_of {l : List α} {i : Nat} {x : α} (h : l[i]? = some x) : nth l i = x := by simp [nth, h]
theorem nth_take_lt {l : List α} {i j : Nat} (h : i < j) : nth (l.take j) i = nth l i := by simp [nth, List.getElem?_take, h]
theorem nth_drop_add {l : List α} {i j : Nat} : nth (l.drop j) i = nth l (j + i) := by simp [nth, List.getElem?_drop]
theorem nth_append_left {a b : List α} {i : Nat} (h : i < a.length) : nth (a ++ b) i = nth a i := by simp [nth, List.getElem?_append_left h]
theorem nth_append_right {a b : List α} {i : Nat} (h : a.length ≤ i) : nth (a ++ b) i = nth b (i - a.length) := by simp [nth, List.getElem?_append_right h]
theorem nth_set {l : List α} {i j : Nat} {x : α} (h : i < l.length) : nth (l.set i x) j = if i = j then x else nth l j := by
  unfold nth
  by_cases hj : i = j
  · subst hj; simp [h]
  · simp [List.getElem?_set, hj]
theorem ext_nth {a b : List α} (hl : a.length = b.length) (h : ∀ i, i < a.length → nth a i = nth b i) : a = b := by
  apply List.ext_getElem hl
  intro i h1 h2
  have := h i h1
  rwa [nth_eq h1, nth_eq h2] at this
end

/-! ### Operations on rows -/
section
variable {P : Program} {α : Type} {E : α → List V} {sz : Nat} {t e : TypeId} {h : Heap} {fl : Fl} {l : List α}

/-- A slice type's element size. -/
def esz (P : Program) (t : TypeId) : Option Nat := (elemOfSlice P t).bind (szO P)
def idxR [Inhabited α] (sz : Option Nat) (E : α → List V) (l : List α) (i : Int) : Option V := match sz with
  | some _ => if 0 ≤ i ∧ i.toNat < l.length then some (.rptr (E (nth l i.toNat) ++ rows E (l.drop (i.toNat + 1)))) else none
  | none => none
theorem indexAddr_R [Inhabited α] [hE : EncC E sz] (he : esz P t = some sz) (k : IntKind) (i : Int) :
    indexAddrV P t (R fl E l) (.int k i) = if 0 ≤ i ∧ i.toNat < l.length then some (.rptr (E (nth l i.toNat) ++ rows E (l.drop (i.toNat + 1)))) else none := by
  unfold esz at he
  obtain ⟨e, h1, h2⟩ := Option.bind_eq_some_iff.1 he
  unfold indexAddrV R
  simp only [intOf?, h1, h2]
  by_cases hi : 0 ≤ i ∧ i.toNat < l.length
  · rw [if_pos hi, if_pos ⟨hi.1, hi.2, by rw [rows_length]; exact Nat.mul_lt_mul_of_pos_right hi.2 hE.pos⟩, rows_drop, nth_drop hi.2, rows_cons]
  · rw [if_neg hi, if_neg fun hh => hi ⟨hh.1, hh.2.1⟩]

def lenD (n : Nat) : Option TypeDesc → Option V
  | some (.slice _) => some (.int .i64 n)
  | some (.array m _) => some (.int .i64 m)
  | _ => none
@[simp] theorem lenD_slice (n : Nat) (d : TypeId) : lenD n (some (.slice d)) = some (.int .i64 n) := rfl
@[simp] theorem lenV_R : lenV P h t (R fl E l) = lenD l.length (P.underlying t) := by
  unfold lenV R lenD
  cases P.underlying t with
  | none => rfl
  | some d => cases d <;> rfl
@[simp] theorem lenV_nil {a b : Bool} {tok : Option Nat} : lenV P h t (.row a b [] 0 tok) = lenD 0 (P.underlying t) := by
  unfold lenV lenD
  cases P.underlying t with
  | none => rfl
  | some d => cases d <;> rfl
def lenS (n : Nat) : Option TypeDesc → Option V
  | some .string => some (.int .i64 n)
  | _ => none
@[simp] theorem lenS_str (n : Nat) : lenS n (some .string) = some (.int .i64 n) := rfl
theorem lenV_str {s : List UInt8} (ht : P.underlying t = some .string) : lenV P h t (.str s) = some (.int .i64 s.length) := by
  unfold lenV; rw [ht]

theorem bound_int {n d : Nat} {k : IntKind} {i : Int} : bound n d (some (.int k i)) = if 0 ≤ i ∧ i.toNat ≤ n then some i.toNat else none := rfl
theorem bound_none {n d : Nat} : bound n d none = some d := rfl

/-- a part of a row -/
theorem slice_R [hE : EncC E sz] (he : esz P t = some sz) {lo hi : Option V} {a b : Nat} (hb : bound l.length l.length hi = some b) (ha : bound b 0 lo = some a) :
    sliceV P t h (R fl E l) lo hi none = some (R (fl.1, fl.2.1 && b == l.length, if b = l.length ∧ a = 0 then fl.2.2 else none) E ((l.take b).drop a)) := by
  unfold esz at he
  obtain ⟨e, h1, h2⟩ := Option.bind_eq_some_iff.1 he
  have hab : b ≤ l.length := by
    cases hi with
    | none => simp only [bound, Option.some.injEq] at hb; omega
    | some v =>
      cases v <;> simp only [bound] at hb <;> (try (cases hb; done))
      split at hb <;> (try (cases hb; done))
      simp only [Option.some.injEq] at hb; omega
  have haa : a ≤ b := by
    cases lo with
    | none => simp only [bound, Option.some.injEq] at ha; omega
    | some v =>
      cases v <;> simp only [bound] at ha <;> (try (cases ha; done))
      split at ha <;> (try (cases ha; done))
      simp only [Option.some.injEq] at ha; omega
  unfold sliceV R
  simp only [h1, h2]
  rw [if_pos (by rw [rows_length])]
  simp only [bound_none, Option.isSome_none, Bool.false_eq_true, if_false, hb, ha, false_and, Option.isNone_none, Bool.false_and, Bool.true_and, Bool.false_or, true_and]
  rw [rows_take, rows_drop, List.length_drop, List.length_take, Nat.min_eq_left hab]
/-- a part of a row, its capacity given -/
theorem slice3_R [hE : EncC E sz] (he : esz P t = some sz) {lo hi mx : Option V} {a b m : Nat} (hh : hi.isSome = true) (hxs : mx.isSome = true) (hm : bound l.length l.length mx = some m) (hb : bound m m hi = some b) (ha : bound b 0 lo = some a) :
    sliceV P t h (R fl E l) lo hi mx = some (R (fl.1, m == b, none) E ((l.take b).drop a)) := by
  unfold esz at he
  obtain ⟨e, h1, h2⟩ := Option.bind_eq_some_iff.1 he
  have key : ∀ (n d : Nat) (o : Option V) (r : Nat), (o = none → d ≤ n) → bound n d o = some r → r ≤ n := by
    intro n d o r hd hb
    cases o with
    | none => simp only [bound, Option.some.injEq] at hb; have := hd rfl; omega
    | some v =>
      cases v <;> simp only [bound] at hb <;> (try (cases hb; done))
      split at hb <;> (try (cases hb; done))
      simp only [Option.some.injEq] at hb; omega
  have h3 : m ≤ l.length := key _ _ _ _ (fun _ => Nat.le_refl _) hm
  have h4 : b ≤ m := key _ _ _ _ (fun _ => Nat.le_refl _) hb
  unfold sliceV R
  simp only [h1, h2]
  rw [if_pos (by rw [rows_length])]
  have hn : hi.isNone = false := by cases hi <;> simp at hh ⊢
  simp only [hxs, hm, hb, ha, if_true, hn, Bool.false_eq_true, and_false, if_false, Bool.true_and]
  have hmn : mx.isNone = false := by cases mx <;> simp at hxs ⊢
  simp only [hmn, Bool.false_and, Bool.or_false, Bool.false_eq_true, false_and, if_false]
  rw [rows_take, rows_drop, List.length_drop, List.length_take, Nat.min_eq_left (by omega)]

theorem sliceCells_R [hE : EncC E sz] : sliceCells h sz (R fl E l) = some (rows E l) := by
  unfold sliceCells R; simp [rows_length]
theorem lenO_R : lenO (R fl E l) = some l.length := rfl

/-- May be appended to. -/
structure App (ts : List (Option Nat)) (sz : Nat) (fl : Fl) : Prop where
  ok : (fl.2.2 = none ∧ (fl.1 || fl.2.1) = true) ∨ ∃ k, fl.2.2 = some k ∧ ts[k]? = some (some sz)
def bumpT (ts : List (Option Nat)) (tok : Option Nat) (sz : Nat) : List (Option Nat) := (match tok with | some k => ts.set k none | none => ts) ++ [some sz]
def bump (h : Heap) (tok : Option Nat) (sz : Nat) : Heap := ⟨h.bs, bumpT h.ts tok sz⟩
@[simp] theorem bump_eq (h : Heap) (tok : Option Nat) (sz : Nat) : bump h tok sz = ⟨h.bs, bumpT h.ts tok sz⟩ := rfl
theorem bump_len (ts : List (Option Nat)) (tok : Option Nat) (sz : Nat) : (bumpT ts tok sz).length = ts.length + 1 := by unfold bumpT; cases tok <;> simp
theorem App.nil (ts : List (Option Nat)) (sz : Nat) (b : Bool) : App ts sz (true, b, none) := ⟨.inl ⟨rfl, rfl⟩⟩
theorem App.full (ts : List (Option Nat)) (sz : Nat) (b : Bool) : App ts sz (b, true, none) := ⟨.inl ⟨rfl, by simp⟩⟩
theorem App.new (ts : List (Option Nat)) (sz : Nat) (tok : Option Nat) : App (bumpT ts tok sz) sz (false, false, some ts.length) := by
  refine ⟨.inr ⟨_, rfl, ?_⟩⟩
  unfold bumpT
  cases tok <;> simp [List.getElem?_append]
theorem App.keep {ts : List (Option Nat)} {sz sz' : Nat} {fl : Fl} {tok : Option Nat} (ha : App ts sz fl) (hn : fl.2.2 = none ∨ fl.2.2 ≠ tok) : App (bumpT ts tok sz') sz fl := by
  rcases ha.ok with h1 | ⟨k, h1, h2⟩
  · exact ⟨.inl h1⟩
  · refine ⟨.inr ⟨k, h1, ?_⟩⟩
    have hk := (List.getElem?_eq_some_iff.1 h2).1
    rcases hn with hn | hn
    · rw [h1] at hn; cases hn
    · unfold bumpT
      cases tok with
      | none => simp [List.getElem?_append_left hk, h2]
      | some j =>
        have : j ≠ k := fun e => hn (by rw [h1, e])
        simp only
        rw [List.getElem?_append_left (by simpa using hk), List.getElem?_set_ne this, h2]
/-- the living token lies below the others to come -/
theorem App.lt {ts : List (Option Nat)} {sz : Nat} {fl : Fl} (ha : App ts sz fl) : fl.2.2 = none ∨ fl.2.2 ≠ some ts.length := by
  rcases ha.ok with h1 | ⟨k, h1, h2⟩
  · exact .inl h1.1
  · right; rw [h1]; intro e
    simp only [Option.some.injEq] at e
    have := (List.getElem?_eq_some_iff.1 h2).1
    omega

/-- How many bytes an element has, if its zero value is known. -/
def apz (P : Program) (ts : Array TypeId) : Option (Nat × Nat) :=
  match ts[0]?, ts[1]? with
  | some t0, some t1 => match elemOfSlice P t0, P.underlying t1 with
    | some e, some d => if isIntD d then none else match P.info? e, zeroCs P e with
      | some i, some _ => some (i.size, i.bytes)
      | _, _ => none
    | _, _ => none
  | _, _ => none
theorem appendV_apz {ts : Array TypeId} {sz by' : Nat} (ht : apz P ts = some (sz, by')) {s x : V} : ∃ e i z, appendV P h false ts s x = appendE P h e s x ∧ P.info? e = some i ∧ zeroCs P e = some z ∧ i.size = sz ∧ i.bytes = by' := by
  unfold apz at ht
  split at ht <;> (try (cases ht; done))
  rename_i t0 t1 h0 h1
  split at ht <;> (try (cases ht; done))
  rename_i e d he hd
  split at ht <;> (try (cases ht; done))
  rename_i hnd
  split at ht <;> (try (cases ht; done))
  rename_i i z hi hz
  simp only [Option.some.injEq, Prod.mk.injEq] at ht
  refine ⟨e, i, z, ?_, hi, hz, ht.1, ht.2⟩
  unfold appendV
  simp only [h0, h1, he, hd]
  rw [if_neg hnd]
  simp only [Bool.false_eq_true, if_false]
theorem appendV_apzB {ts : Array TypeId} {sz by' : Nat} (ht : apz P ts = some (sz, by')) {s x : V} : ∃ e i z, appendV P h true ts s x = appendEB P h e s x ∧ P.info? e = some i ∧ zeroCs P e = some z ∧ i.size = sz ∧ i.bytes = by' := by
  unfold apz at ht
  split at ht <;> (try (cases ht; done))
  rename_i t0 t1 h0 h1
  split at ht <;> (try (cases ht; done))
  rename_i e d he hd
  split at ht <;> (try (cases ht; done))
  rename_i hnd
  split at ht <;> (try (cases ht; done))
  rename_i i z hi hz
  simp only [Option.some.injEq, Prod.mk.injEq] at ht
  refine ⟨e, i, z, ?_, hi, hz, ht.1, ht.2⟩
  unfold appendV
  simp only [h0, h1, he, hd]
  rw [if_neg hnd]
  simp only [if_true]
theorem append_R [hE : EncC E sz] {ts : Array TypeId} {by' : Nat} (ht : apz P ts = some (sz, by')) {fl2 : Fl} {m : List α} (hm : m ≠ []) (ha : App h.ts sz fl) (hl : l.length + m.length ≤ 4294967296) (hby : by' ≤ 16384) :
    appendV P h false ts (R fl E l) (R fl2 E m) = some (R (false, false, some h.ts.length) E (l ++ m), bump h fl.2.2 sz) := by
  obtain ⟨e, i, z, h1, hi, hz, hs, hb⟩ := appendV_apz (h := h) ht (s := R fl E l) (x := R fl2 E m)
  rw [h1]
  unfold appendE
  simp only [hi, hz, hs, sliceCells_R (h := h) (fl := fl2) (l := m) (E := E), lenO_R]
  have hm0 : m.length ≠ 0 := by simpa using hm
  have e1 : R fl E l = .row fl.1 fl.2.1 (rows E l) l.length fl.2.2 := rfl
  rw [e1]
  simp only
  rw [if_pos ⟨rows_length l, hE.pos, by simp [smallRow, hl, hb, hby], rows_length m⟩, if_neg hm0]
  rcases ha.ok with ⟨h2, h3⟩ | ⟨k, h2, h3⟩
  · simp only [h2, h3, if_true]
    simp [R, bump, bumpT, h2]
  · simp only [h2, h3, if_true]
    simp [R, bump, bumpT, h2]
theorem append_R_nil [hE : EncC E sz] {ts : Array TypeId} {by' : Nat} (ht : apz P ts = some (sz, by')) {fl2 : Fl} (hl : l.length ≤ 4294967296) (hby : by' ≤ 16384) :
    appendV P h false ts (R fl E l) (R fl2 E []) = some (R fl E l, h) := by
  obtain ⟨e, i, z, h1, hi, hz, hs, hb⟩ := appendV_apz (h := h) ht (s := R fl E l) (x := R fl2 E [])
  rw [h1]
  unfold appendE
  simp only [hi, hz, hs, sliceCells_R (h := h) (fl := fl2) (l := ([] : List α)) (E := E), lenO_R]
  have e1 : R fl E l = .row fl.1 fl.2.1 (rows E l) l.length fl.2.2 := rfl
  rw [e1]
  simp only
  rw [if_pos ⟨rows_length l, hE.pos, by simp [smallRow, hl, hb, hby], by simp⟩, if_pos (by simp)]
/-- An append into a new block. -/
theorem appendB_R [hE : EncC E sz] {ts : Array TypeId} {by' : Nat} (ht : apz P ts = some (sz, by')) {fl2 : Fl} {m : List α} (hm : m ≠ []) (ha : (fl.1 || fl.2.1) = true) (hl : l.length + m.length ≤ 4294967296) (hby : by' ≤ 16384) :
    appendV P h true ts (R fl E l) (R fl2 E m) = some (.slice h.bs.length 0 (l.length + m.length) sz, newB h (.cells (rows E (l ++ m)))) := by
  obtain ⟨e, i, z, h1, hi, hz, hs, hb⟩ := appendV_apzB (h := h) ht (s := R fl E l) (x := R fl2 E m)
  rw [h1]
  unfold appendEB
  simp only [hi, hz, hs, sliceCells_R (h := h) (fl := fl2) (l := m) (E := E), lenO_R]
  have hm0 : m.length ≠ 0 := by simpa using hm
  have e1 : R fl E l = .row fl.1 fl.2.1 (rows E l) l.length fl.2.2 := rfl
  rw [e1]
  simp only
  rw [if_pos ⟨rows_length l, hE.pos, by simp [smallRow, hl, hb, hby], rows_length m⟩, if_neg hm0, if_pos ha, rows_append]
theorem appendB_R_nil [hE : EncC E sz] {ts : Array TypeId} {by' : Nat} (ht : apz P ts = some (sz, by')) {fl2 : Fl} (hl : l.length ≤ 4294967296) (hby : by' ≤ 16384) :
    appendV P h true ts (R fl E l) (R fl2 E []) = some (R fl E l, h) := by
  obtain ⟨e, i, z, h1, hi, hz, hs, hb⟩ := appendV_apzB (h := h) ht (s := R fl E l) (x := R fl2 E [])
  rw [h1]
  unfold appendEB
  simp only [hi, hz, hs, sliceCells_R (h := h) (fl := fl2) (l := ([] : List α)) (E := E), lenO_R]
  have e1 : R fl E l = .row fl.1 fl.2.1 (rows E l) l.length fl.2.2 := rfl
  rw [e1]
  simp only
  rw [if_pos ⟨rows_length l, hE.pos, by simp [smallRow, hl, hb, hby], by simp⟩, if_pos (by simp)]
/-- An append onto a block. -/
theorem appendB_sl [hE : EncC E sz] {ts : Array TypeId} {by' : Nat} (ht : apz P ts = some (sz, by')) {fl2 : Fl} {m : List α} {a : Nat} (hm : m ≠ []) (hb : h.bs[a]? = some (.cells (rows E l))) (hl : l.length + m.length ≤ 4294967296) (hby : by' ≤ 16384) :
    appendV P h true ts (.slice a 0 l.length sz) (R fl2 E m) = some (.slice h.bs.length 0 (l.length + m.length) sz, newB { h with bs := h.bs.set a .dead } (.cells (rows E (l ++ m)))) := by
  obtain ⟨e, i, z, h1, hi, hz, hs, hb'⟩ := appendV_apzB (h := h) ht (s := .slice a 0 l.length sz) (x := R fl2 E m)
  rw [h1]
  unfold appendEB
  simp only [hi, hz, hs, sliceCells_R (h := h) (fl := fl2) (l := m) (E := E), lenO_R, hb]
  have hm0 : m.length ≠ 0 := by simpa using hm
  rw [if_pos ⟨trivial, trivial, rows_length l, hE.pos, by simp [smallRow, hl, hb', hby], rows_length m⟩, if_neg hm0, rows_append]
/-- Whatever is appended: there is some token. -/
theorem append_R_any [hE : EncC E sz] {ts : Array TypeId} {by' : Nat} (ht : apz P ts = some (sz, by')) {fl2 : Fl} {m : List α} (ha : App h.ts sz fl) (hl : l.length + m.length ≤ 4294967296) (hby : by' ≤ 16384) :
    ∃ fl' h', appendV P h false ts (R fl E l) (R fl2 E m) = some (R fl' E (l ++ m), h') ∧ App h'.ts sz fl' ∧ h'.bs = h.bs ∧
      (∀ sz2 (f2 : Fl), App h.ts sz2 f2 → (f2.2.2 = none ∨ f2.2.2 ≠ fl.2.2) → App h'.ts sz2 f2 ∧ (f2.2.2 = none ∨ f2.2.2 ≠ fl'.2.2)) := by
  by_cases hm : m = []
  · subst hm
    refine ⟨fl, h, by rw [append_R_nil ht (by simpa using hl) hby]; simp, ha, rfl, fun sz2 f2 h2 hn => ⟨h2, hn⟩⟩
  · exact ⟨_, _, append_R ht hm ha hl hby, App.new _ _ _, rfl, fun sz2 f2 h2 hn => ⟨h2.keep hn, h2.lt⟩⟩
end

/-! ### Blocks of typed cells -/
section
variable {P : Program} {α : Type} {E : α → List V} {sz : Nat}
theorem writeL_append_left : ∀ (vs : List V) (i : Nat) (a b : List V), i + vs.length ≤ a.length → writeL (a ++ b) i vs = writeL a i vs ++ b
  | [], i, a, b, _ => rfl
  | v :: vs, i, a, b, h => by
    simp only [List.length_cons] at h
    simp only [writeL]
    rw [List.set_append_left _ _ (by omega), writeL_append_left vs (i + 1) (a.set i v) b (by simp; omega)]
theorem writeL_append_right : ∀ (vs : List V) (i : Nat) (a b : List V), writeL (a ++ b) (a.length + i) vs = a ++ writeL b i vs
  | [], i, a, b => rfl
  | v :: vs, i, a, b => by
    simp only [writeL]
    rw [List.set_append_right _ _ (by omega), show a.length + i - a.length = i by omega, Nat.add_assoc, writeL_append_right vs (i + 1) a (b.set i v)]
theorem writeL_all : ∀ (vs a : List V), vs.length = a.length → writeL a 0 vs = vs := by
  have key : ∀ (vs a pre : List V), vs.length = a.length → writeL (pre ++ a) pre.length vs = pre ++ vs := by
    intro vs
    induction vs with
    | nil => intro a pre h; have : a = [] := List.eq_nil_of_length_eq_zero h.symm; subst this; rfl
    | cons v vs ih =>
      intro a pre h
      cases a with
      | nil => simp at h
      | cons x a =>
        simp only [List.length_cons, Nat.add_right_cancel_iff] at h
        simp only [writeL]
        have := ih a (pre ++ [v]) h
        simp only [List.length_append, List.length_cons, List.length_nil, List.append_assoc, List.cons_append, List.nil_append] at this
        rw [List.set_append_right _ _ (Nat.le_refl _), Nat.sub_self, List.set_cons_zero]
        simpa using this
  intro vs a h
  simpa using key vs a [] h
theorem rows_set [hE : EncC E sz] (l : List α) (i : Nat) (x : α) (h : i < l.length) : writeL (rows E l) (i * sz) (E x) = rows E (l.set i x) := by
  have e : l = l.take i ++ l[i] :: l.drop (i + 1) := by simp
  have hl : (rows E (l.take i)).length = i * sz := by rw [rows_length, List.length_take, Nat.min_eq_left (by omega)]
  have e2 : l.set i x = l.take i ++ x :: l.drop (i + 1) := by rw [List.set_eq_take_append_cons_drop, if_pos h]
  rw [e2]
  conv => lhs; rw [e]
  rw [rows_append, rows_append, rows_cons, rows_cons, ← hl]
  have := writeL_append_right (E x) 0 (rows E (l.take i)) (E l[i] ++ rows E (l.drop (i + 1)))
  refine Eq.trans this ?_
  rw [writeL_append_left _ _ _ _ (by rw [hE.len, hE.len]; omega), writeL_all _ _ (by rw [hE.len, hE.len])]
/-- reading an element in a block -/
theorem readP_block [Inhabited α] [hE : EncC E sz] {h : Heap} {a i n : Nat} {l : List α} (hb : h.bs[a]? = some (.cells (rows E l))) (hi : i < l.length) (hn : n = sz) : readP h (.ptr a (i * sz)) n = some (E (nth l i)) := by
  subst hn
  unfold readP
  simp only [hb]
  rw [if_pos (by rw [rows_length, ← Nat.succ_mul]; exact Nat.mul_le_mul_right _ hi), rows_drop, nth_drop hi, rows_cons, List.take_append_of_le_length (by rw [hE.len]; exact Nat.le_refl _), List.take_of_length_le (by rw [hE.len]; exact Nat.le_refl _)]
end
end Go.Ab
