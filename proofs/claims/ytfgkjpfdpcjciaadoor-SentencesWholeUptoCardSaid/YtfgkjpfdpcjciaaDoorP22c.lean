/- Maps from texts to numbers, as lists; points that votes give. -/
import Derived.Test.YtfgkjpfdpcjciaaDoorP22b
import Derived.Test.YtfgkjpfdpcjciaaDoorU
set_option linter.unusedVariables false
set_option linter.unusedSimpArgs false
set_option linter.unusedSectionVars false
set_option linter.deprecated false
namespace Go.Ab
def mE : Nat → List (Wd × Nat) → List (V × V × Nat)
  | _, [] => []
  | i, (k, v) :: l => (.str k, .int .i64 v, i) :: mE (i + 1) l
def getM : List (Wd × Nat) → Wd → Nat
  | [], _ => 0
  | (k, v) :: l, s => if k = s then v else getM l s
def putM : List (Wd × Nat) → Wd → Nat → List (Wd × Nat)
  | [], s, n => [(s, n)]
  | (k, v) :: l, s, n => if k = s then (k, n) :: l else (k, v) :: putM l s n
theorem getM_put (l : List (Wd × Nat)) (s : Wd) (n : Nat) (t : Wd) : getM (putM l s n) t = if t = s then n else getM l t := by
  induction l with
  | nil =>
    by_cases h : t = s
    · subst h; simp [putM, getM]
    · have h2 : ¬ s = t := fun e => h e.symm
      simp [putM, getM, h, h2]
  | cons p l ih =>
    obtain ⟨k, v⟩ := p
    rw [putM]
    by_cases hk : k = s
    · rw [if_pos hk, getM, getM]
      by_cases h : t = s
      · rw [if_pos h, if_pos (hk.trans h.symm)]
      · have h2 : ¬ k = t := fun e => h (e.symm.trans hk)
        rw [if_neg h, if_neg h2, if_neg h2]
    · rw [if_neg hk, getM, ih, getM]
      by_cases h : t = s
      · subst h; rw [if_pos rfl, if_neg hk, if_pos rfl]
      · rw [if_neg h, if_neg h]
theorem eqKey_str {P : Program} {kt : TypeId} (hk : P.underlying kt = some .string) (a b : Wd) : eqKey P kt (.str a) (.str b) = some (a == b) := by
  unfold eqKey; rw [hk]
theorem findK_str {P : Program} {kt : TypeId} (hk : P.underlying kt = some .string) (s : Wd) : ∀ (l : List (Wd × Nat)) (i : Nat),
    (findK P kt (.str s) (mE i l) = some none ∧ getM l s = 0 ∧ ∀ n, mE i l ++ [(V.str s, V.int .i64 (n : Nat), i + l.length)] = mE i (putM l s n) ∧ (putM l s n).length = l.length + 1) ∨
    (∃ j, findK P kt (.str s) (mE i l) = some (some (j, .int .i64 (getM l s), i + j)) ∧ ∀ n, (mE i l).set j (.str s, .int .i64 (n : Nat), i + j) = mE i (putM l s n) ∧ (putM l s n).length = l.length)
  | [], i => .inl ⟨rfl, rfl, fun n => ⟨by simp [mE, putM], rfl⟩⟩
  | (k, v) :: l, i => by
    by_cases h : k = s
    · subst h
      refine .inr ⟨0, ?_, fun n => ⟨?_, ?_⟩⟩
      · rw [mE, findK, eqKey_str hk]; simp [getM]
      · simp [mE, putM]
      · simp [putM]
    · have hb : (s == k) = false := by rw [beq_eq_false_iff_ne]; exact fun e => h e.symm
      rcases findK_str hk s l (i + 1) with ⟨h1, h2, h3⟩ | ⟨j, h1, h2⟩
      · refine .inl ⟨?_, ?_, fun n => ⟨?_, ?_⟩⟩
        · rw [mE, findK, eqKey_str hk, hb]; simp [h1]
        · rw [getM, if_neg h, h2]
        · have := (h3 n).1
          rw [putM, if_neg h, mE, mE, List.cons_append, ← this, List.length_cons, Nat.add_assoc i 1, Nat.add_comm 1]
        · rw [putM, if_neg h, List.length_cons, (h3 n).2]; rfl
      · refine .inr ⟨j + 1, ?_, fun n => ⟨?_, ?_⟩⟩
        · rw [mE, findK, eqKey_str hk, hb, getM, if_neg h]
          simp only [h1]
          rw [show i + 1 + j = i + (j + 1) by omega]
        · have := (h2 n).1
          rw [putM, if_neg h, mE, mE, List.set_cons_succ, ← this, show i + 1 + j = i + (j + 1) by omega]
        · rw [putM, if_neg h, List.length_cons, (h2 n).2]; rfl
theorem lookup_M {P : Program} {h : Heap} {t kt et : TypeId} {a : Nat} {l : List (Wd × Nat)} (s : Wd) (ht : P.underlying t = some (.map kt et)) (hk : P.underlying kt = some .string) (hz : zeroV P et = some (.int .i64 0)) (hb : h.bs[a]? = some (.map (mE 0 l) l.length)) :
    lookupV P h t (.map a) (.str s) false = some (.int .i64 (getM l s)) := by
  unfold lookupV
  have hko : keyOk P kt (.str s) = true := by unfold keyOk; rw [hk]
  rw [ht]
  simp only [hko, hb]
  rcases findK_str hk s l 0 with ⟨h1, h2, _⟩ | ⟨j, h1, _⟩
  · rw [h1, h2]; simp [hz]
  · rw [h1]; simp
theorem mapUpd_M {P : Program} {h : Heap} {t kt et : TypeId} {a : Nat} {l : List (Wd × Nat)} (s : Wd) (n : Nat) (ht : P.underlying t = some (.map kt et)) (hk : P.underlying kt = some .string) (hb : h.bs[a]? = some (.map (mE 0 l) l.length)) :
    mapUpdV P h t (.map a) (.str s) (.int .i64 n) = some { h with bs := h.bs.set a (.map (mE 0 (putM l s n)) (putM l s n).length) } := by
  unfold mapUpdV
  have hko : keyOk P kt (.str s) = true := by unfold keyOk; rw [hk]
  rw [ht]
  have hc : (V.int IntKind.i64 (n : Int)).cellsO.isNone = false := rfl
  simp only [hko, hb, hc]
  rcases findK_str hk s l 0 with ⟨h1, h2, h3⟩ | ⟨j, h1, h2⟩
  · have := h3 n
    rw [Nat.zero_add] at this
    rw [h1]; simp [this.1, this.2]
  · have := h2 n
    rw [h1]; simp
    rw [Nat.zero_add] at this
    rw [this.1, this.2]
/-- points while a cell's votes are counted -/
def ptJ (c : Cell) (j : Nat) (t : Wd) : Nat := if c.text = t then 2 else if t ∈ c.alts.take j then 1 else 0
theorem ptJ_zero (c : Cell) (t : Wd) : ptJ c 0 t = if t = c.text then 2 else 0 := by
  unfold ptJ
  by_cases h : c.text = t
  · subst h; simp
  · have h2 : ¬ t = c.text := fun e => h e.symm
    simp [h, h2]
theorem ptJ_full (c : Cell) (t : Wd) {j : Nat} (h : c.alts.length ≤ j) : ptJ c j t = ptC c t := by
  unfold ptJ ptC; rw [List.take_of_length_le h]
theorem ptJ_skip (c : Cell) (t : Wd) {j : Nat} (hj : j < c.alts.length) (h : nth c.alts j = c.text ∨ nth c.alts j ∈ c.alts.take j) : ptJ c (j + 1) t = ptJ c j t := by
  unfold ptJ
  by_cases h0 : c.text = t
  · rw [if_pos h0, if_pos h0]
  · rw [if_neg h0, if_neg h0, nth_take hj]
    have : (t ∈ c.alts.take j ++ [nth c.alts j]) ↔ t ∈ c.alts.take j := by
      rw [List.mem_append, List.mem_singleton]
      constructor
      · rintro (e | e)
        · exact e
        · subst e
          rcases h with h | h
          · exact absurd h.symm h0
          · exact h
      · exact .inl
    simp only [this]
theorem ptJ_vote (c : Cell) (t : Wd) {j : Nat} (hj : j < c.alts.length) (h1 : ¬ nth c.alts j = c.text) (h2 : nth c.alts j ∉ c.alts.take j) : ptJ c (j + 1) t = if t = nth c.alts j then ptJ c j (nth c.alts j) + 1 else ptJ c j t := by
  unfold ptJ
  by_cases ht : t = nth c.alts j
  · subst ht
    have h3 : ¬ c.text = nth c.alts j := fun e => h1 e.symm
    rw [if_pos rfl, if_neg h3, if_neg h3, nth_take hj, if_pos (by simp), if_neg h2]
  · rw [if_neg ht, nth_take hj]
    have : (t ∈ c.alts.take j ++ [nth c.alts j]) ↔ t ∈ c.alts.take j := by
      rw [List.mem_append, List.mem_singleton]
      exact ⟨fun e => e.resolve_right ht, .inl⟩
    simp only [this]
theorem textsS_take {x : List Cell} {i : Nat} (h : i < x.length) : textsS (x.take (i + 1)) = textsS (x.take i) ++ textsC (nth x i) := by
  rw [nth_take h]; unfold textsS; rw [List.flatMap_append]; simp
theorem textsC_take (c : Cell) {j : Nat} (h : j < c.alts.length) : (textsC c).take (j + 2) = (textsC c).take (j + 1) ++ [nth c.alts j] := by
  unfold textsC
  rw [List.take_succ_cons, List.take_succ_cons, nth_take h]; rfl
theorem textsC_one (c : Cell) : (textsC c).take 1 = [c.text] := rfl
theorem textsC_full (c : Cell) {j : Nat} (h : c.alts.length ≤ j) : (textsC c).take (j + 1) = textsC c := by
  rw [List.take_of_length_le]; unfold textsC; simp; omega
theorem bestF_dup (x : List Cell) (c : Cell) (z : Wd × Nat) {j : Nat} (hj : j < c.alts.length) (h : nth c.alts j = c.text ∨ nth c.alts j ∈ c.alts.take j) : bestF x ((textsC c).take (j + 2)) z = bestF x ((textsC c).take (j + 1)) z := by
  rw [textsC_take c hj, bestF_app]
  refine bestF_skip x _ _ (fun t ht hn => ?_)
  rw [List.mem_singleton] at ht
  subst ht
  refine bestF_ge x _ z _ ?_ hn
  unfold textsC
  rw [List.take_succ_cons]
  rcases h with h | h
  · rw [h]; exact List.mem_cons_self
  · exact List.mem_cons_of_mem _ h
theorem bestF_one (x : List Cell) (t : Wd) (z : Wd × Nat) : bestF x [t] z = if t ≠ [] ∧ z.2 < ptS x t then (t, ptS x t) else z := rfl
theorem bestF_vote (x : List Cell) (c : Cell) (z : Wd × Nat) {j : Nat} (hj : j < c.alts.length) : bestF x ((textsC c).take (j + 2)) z = bestF x [nth c.alts j] (bestF x ((textsC c).take (j + 1)) z) := by
  rw [textsC_take c hj, bestF_app]
/-- where a text stands -/
def ixW (l : List Wd) (s : Wd) : Int := match (List.range l.length).find? (fun i => nth l i == s) with
  | some i => i
  | none => -1
theorem ixW_some {l : List Wd} {s : Wd} {i : Nat} (hi : i < l.length) (h : nth l i = s) (hb : ∀ j, j < i → ¬ nth l j = s) : ixW l s = i := by
  unfold ixW; rw [findTo_some hi (by rw [h]; simp) (fun j hj => by simpa using hb j hj)]
theorem ixW_none {l : List Wd} {s : Wd} (h : ∀ j, j < l.length → ¬ nth l j = s) : ixW l s = -1 := by
  unfold ixW; rw [findTo_none (fun j hj => by simpa using h j hj)]
theorem ixW_mem (l : List Wd) (s : Wd) : decide (0 ≤ ixW l s) = decide (s ∈ l) := by
  by_cases h : s ∈ l
  · rw [decide_eq_true h]
    unfold ixW
    split
    · simp
    · rename_i hn
      rw [List.find?_eq_none] at hn
      obtain ⟨j, hj, rfl⟩ := List.mem_iff_getElem.1 h
      have := hn j (by simpa using hj)
      rw [← nth_eq hj] at this
      simp at this
  · rw [decide_eq_false h, ixW_none (fun j hj e => h (by rw [← e]; exact nth_mem hj))]; rfl
/-- where something stands -/
def atP {α : Type} [Inhabited α] (p : α → Bool) (l : List α) : Int := match (List.range l.length).find? (fun i => p (nth l i)) with
  | some i => i
  | none => -1
theorem atP_some {α : Type} [Inhabited α] {p : α → Bool} {l : List α} {i : Nat} (hi : i < l.length) (h : p (nth l i) = true) (hb : ∀ j, j < i → p (nth l j) = false) : atP p l = i := by
  unfold atP; rw [findTo_some hi h hb]
theorem atP_none {α : Type} [Inhabited α] {p : α → Bool} {l : List α} (h : ∀ j, j < l.length → p (nth l j) = false) : atP p l = -1 := by
  unfold atP; rw [findTo_none h]
theorem atP_any {α : Type} [Inhabited α] (p : α → Bool) (l : List α) : decide (0 ≤ atP p l) = l.any p := by
  cases hb : l.any p with
  | false =>
    rw [atP_none (fun j hj => ?_)]; · rfl
    cases hp : p (nth l j) with
    | false => rfl
    | true =>
      have : l.any p = true := List.any_eq_true.2 ⟨_, nth_mem hj, hp⟩
      rw [hb] at this; cases this
  | true =>
    unfold atP
    split
    · simp
    · rename_i hn
      rw [List.find?_eq_none] at hn
      rw [List.any_eq_true] at hb
      obtain ⟨x, hx, hp⟩ := hb
      obtain ⟨j, hj, rfl⟩ := List.mem_iff_getElem.1 hx
      have := hn j (by simpa using hj)
      rw [nth_eq hj] at this
      exact absurd hp this
end Go.Ab
