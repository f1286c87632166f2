/- Layer 22 (fuse), plain: cells, slots, what is put into them, points. -/
import Derived.Test.YtfgkjpfdpcjciaaDoorP21
import Derived.Test.YtfgkjpfdpcjciaaDoorAbsD
set_option linter.unusedVariables false
set_option linter.unusedSimpArgs false
set_option linter.unusedSectionVars false
set_option linter.deprecated false
namespace Go.Ab
/-- what a source says in a slot -/
structure Cell where
  text : Wd
  alts : List Wd
  deriving DecidableEq
instance : Inhabited Cell := ⟨⟨[], []⟩⟩
abbrev c0 : Cell := ⟨[], []⟩
def eC (x : Cell) : List V := [.str x.text, R fl0 eS x.alts]
instance : EncC eC 2 := ⟨fun _ => rfl, by decide, fun _ => rfl, fun _ => by simp [eC, V.closed.closedL, V.closed], fun _ => by simp [eC, V.norm.normL, V.norm]⟩
/-! Appends of rows that are not in their plain form -/
theorem append_close {P : Program} {h : Heap} {ts : Array TypeId} {s x y : V} (he : closeV x = closeV y) : appendV P h false ts s x = appendV P h false ts s y := by
  unfold appendV
  cases ts[0]? with
  | none => rfl
  | some t0 => cases ts[1]? with
    | none => rfl
    | some t1 =>
      simp only
      cases elemOfSlice P t0 with
      | none => rfl
      | some e => cases P.underlying t1 with
        | none => rfl
        | some d => simp [he]
@[simp] theorem append_rowR {P : Program} {α : Type} {E : α → List V} {sz : Nat} {h : Heap} {fl q : Fl} {L : List (List α)} {l : List α} [hE : EncC E sz] {ts : Array TypeId} {a b : Bool} {tok : Option Nat} (ht : apok P ts 1 = true) (ha : App h.ts 1 fl) (hl : L.length + 1 ≤ 4294967296) :
    appendV P h false ts (R fl (eR E) L) (.row a b [R q E l] 1 tok) = some (R (false, false, some h.ts.length) (eR E) (L ++ [l]), bump h fl.2.2 1) := by
  rw [append_close (y := R fl0 (eR E) [l]) (by rw [closeV_R1, closeV_R])]
  exact append_R1 ht ha hl
theorem closeV_cell (a b : Bool) (tok : Option Nat) (t : Wd) (q : Fl) (al : List Wd) : closeV (.row a b [.str t, R q eS al] 1 tok) = R fl0 eC [⟨t, al⟩] := by
  have h : (V.row a b [.str t, R q eS al] 1 tok).closed = true := by simp [V.closed, V.closed.closedL]
  unfold closeV; rw [if_pos h]; simp [V.norm, V.norm.normL, R, eC]
@[simp] theorem append_cell {P : Program} {h : Heap} {fl q : Fl} {L : List Cell} {t : Wd} {al : List Wd} {ts : Array TypeId} {a b : Bool} {tok : Option Nat} (ht : apok P ts 2 = true) (ha : App h.ts 2 fl) (hl : L.length + 1 ≤ 4294967296) :
    appendV P h false ts (R fl eC L) (.row a b [.str t, R q eS al] 1 tok) = some (R (false, false, some h.ts.length) eC (L ++ [⟨t, al⟩]), bump h fl.2.2 2) := by
  rw [append_close (y := R fl0 eC [⟨t, al⟩]) (by rw [closeV_cell, closeV_R])]
  exact append_R1 ht ha hl
@[simp] theorem append_cell0 {P : Program} {h : Heap} {fl : Fl} {L : List Cell} {t : Wd} {ts : Array TypeId} {a b p q : Bool} {tok : Option Nat} (ht : apok P ts 2 = true) (ha : App h.ts 2 fl) (hl : L.length + 1 ≤ 4294967296) :
    appendV P h false ts (R fl eC L) (.row a b [.str t, .row p q [] 0 none] 1 tok) = some (R (false, false, some h.ts.length) eC (L ++ [⟨t, []⟩]), bump h fl.2.2 2) :=
  append_cell (q := (p, q, none)) (al := []) ht ha hl
theorem append_0c {P : Program} {α : Type} {E : α → List V} {sz : Nat} {h : Heap} {fl : Fl} {l : List α} [hE : EncC E sz] {ts : Array TypeId} {fl2 : Fl} (ht : apok P ts sz = true) (hl : l.length ≤ 4294967296) :
    appendV P h false ts (R fl E l) (R fl2 E []) = some (R fl E l, h) := by
  obtain ⟨b, h1, h2⟩ := apok_apz ht
  exact append_R_nil h1 hl h2
/-- made cells, as they are handed over -/
theorem zcells_flat (n : Nat) : V.norm.normL ((List.replicate n [V.str [], V.row true true [] 0 none]).flatten) = rows eC (List.replicate n c0) ∧ V.closed.closedL ((List.replicate n [V.str [], V.row true true [] 0 none]).flatten) = true := by
  induction n with
  | zero => exact ⟨rfl, rfl⟩
  | succ n ih =>
    rw [List.replicate_succ, List.flatten_cons, List.replicate_succ, rows_cons]
    refine ⟨?_, ?_⟩
    · rw [normL_append, ih.1]; rfl
    · rw [closedL_append, ih.2]; rfl
@[simp] theorem zcells_norm (a b : Bool) (n : Nat) : V.norm (.row a b ((List.replicate n [V.str [], V.row true true [] 0 none]).flatten) n none) = R fl0 eC (List.replicate n c0) := by
  unfold V.norm; rw [(zcells_flat n).1]; simp [R]
@[simp] theorem zcells_closed (a b : Bool) (n : Nat) : V.closed (.row a b ((List.replicate n [V.str [], V.row true true [] 0 none]).flatten) n none) = true := by
  unfold V.closed; exact (zcells_flat n).2
/-- sizes that no machine reaches -/
def smW (x : Wd) : Prop := x.length < 1099511627776
def smC (x : Cell) : Prop := x.text.length < 1099511627776 ∧ x.alts.length < 1099511627776 ∧ ∀ y ∈ x.alts, y.length < 1099511627776
def smS (x : List Cell) : Prop := x.length < 1099511627776 ∧ ∀ y ∈ x, smC y
def smL (x : List (List Cell)) : Prop := x.length < 1099511627776 ∧ ∀ y ∈ x, smS y
theorem smC0 : smC c0 := ⟨by simp, by simp, by simp⟩
theorem smS_nth {x : List Cell} (h : smS x) {i : Nat} (hi : i < x.length) : smC (nth x i) := h.2 _ (nth_mem hi)
theorem smL_nth {x : List (List Cell)} (h : smL x) {i : Nat} (hi : i < x.length) : smS (nth x i) := h.2 _ (nth_mem hi)
/-- a slot's text -/
def textS : List Cell → Wd
  | [] => []
  | c :: r => if c.text = [] then textS r else c.text
theorem textS_stop {x : List Cell} {i : Nat} (hi : i < x.length) (h : ¬ (nth x i).text = []) (hb : ∀ j, j < i → (nth x j).text = []) : textS x = (nth x i).text := by
  induction x generalizing i with
  | nil => simp at hi
  | cons c r ih =>
    cases i with
    | zero => rw [textS, if_neg (by simpa using h)]; rfl
    | succ i =>
      have h0 := hb 0 (by omega)
      rw [textS, if_pos (by simpa using h0), ih (by simpa using hi) (by simpa using h) (fun j hj => by simpa using hb (j + 1) (by omega))]
      simp
theorem textS_none {x : List Cell} (hb : ∀ j, j < x.length → (nth x j).text = []) : textS x = [] := by
  induction x with
  | nil => rfl
  | cons c r ih =>
    have h0 := hb 0 (by simp)
    rw [textS, if_pos (by simpa using h0), ih (fun j hj => by simpa using hb (j + 1) (by simpa using hj))]
theorem textS_app (x y : List Cell) : textS (x ++ y) = if textS x = [] then textS y else textS x := by
  induction x with
  | nil => rfl
  | cons c r ih =>
    rw [List.cons_append, textS, textS]
    by_cases h : c.text = []
    · rw [if_pos h, if_pos h, ih]
    · rw [if_neg h, if_neg h, if_neg h]
theorem textS_mem {x : List Cell} : textS x = [] ∨ ∃ c ∈ x, c.text = textS x := by
  induction x with
  | nil => exact .inl rfl
  | cons c r ih =>
    rw [textS]
    by_cases h : c.text = []
    · rw [if_pos h]
      rcases ih with h1 | ⟨d, hd, h1⟩
      · exact .inl h1
      · exact .inr ⟨d, List.mem_cons_of_mem _ hd, h1⟩
    · rw [if_neg h]; exact .inr ⟨c, List.mem_cons_self, rfl⟩
theorem textS_rep (n : Nat) : textS (List.replicate n c0) = [] := by
  induction n with
  | zero => rfl
  | succ n ih => rw [List.replicate_succ, textS, if_pos rfl, ih]
def saidL (l : List Cell) : List Wd := l.map (·.text)
def textsL (l : List (List Cell)) : List Wd := l.map textS
theorem saidL_take {l : List Cell} {i : Nat} (h : i < l.length) : saidL (l.take (i + 1)) = saidL (l.take i) ++ [(nth l i).text] := by
  unfold saidL; rw [nth_take h, List.map_append]; rfl
theorem textsL_take {l : List (List Cell)} {i : Nat} (h : i < l.length) : textsL (l.take (i + 1)) = textsL (l.take i) ++ [textS (nth l i)] := by
  unfold textsL; rw [nth_take h, List.map_append]; rfl
/-- one step of an alignment -/
def putL (many : Nat) : List Int → List (List Cell) → List Cell → List (List Cell)
  | [], _, _ => []
  | s :: st, x, r => if s = 3 then (nth x 0 ++ [c0]) :: putL many st (x.drop 1) r else if s = 4 then (List.replicate many c0 ++ [nth r 0]) :: putL many st x (r.drop 1) else (nth x 0 ++ [nth r 0]) :: putL many st (x.drop 1) (r.drop 1)
end Go.Ab
