/- Maps to numbers, as lists of entries; what a range over one meets. -/
import Derived.Test.YtjhpmmomalaiiaaDoorAbsD
import Derived.Test.YtjhpmmomalaiiaaDoorU
set_option linter.unusedVariables false
set_option linter.unusedSimpArgs false
set_option linter.unusedSectionVars false
set_option linter.deprecated false
namespace Go.Ab
section
variable {κ : Type} {e : κ → V}
def mG (e : κ → V) : Nat → List (κ × Int) → List (V × V × Nat)
  | _, [] => []
  | i, (k, v) :: l => (e k, .int .i64 v, i) :: mG e (i + 1) l
theorem mG_len : ∀ (l : List (κ × Int)) (i : Nat), (mG e i l).length = l.length
  | [], _ => rfl
  | (k, v) :: l, i => by rw [mG, List.length_cons, mG_len l, List.length_cons]
theorem mG_get : ∀ (l : List (κ × Int)) (i j : Nat), (mG e i l)[j]? = (l[j]?).map fun x => (e x.1, .int .i64 x.2, i + j)
  | [], _, _ => by simp [mG]
  | (k, v) :: l, i, 0 => by simp [mG]
  | (k, v) :: l, i, j + 1 => by
    rw [mG, List.getElem?_cons_succ, mG_get l (i + 1) j, List.getElem?_cons_succ]
    simp only [show i + 1 + j = i + (j + 1) by omega]
theorem mG_mem {l : List (κ × Int)} {x : V × V × Nat} (h : x ∈ mG e 0 l) : ∃ j y, l[j]? = some y ∧ x = (e y.1, .int .i64 y.2, j) := by
  obtain ⟨j, hj⟩ := List.mem_iff_getElem?.1 h
  rw [mG_get, Option.map_eq_some_iff] at hj
  obtain ⟨y, h1, h2⟩ := hj
  exact ⟨j, y, h1, by rw [← h2, Nat.zero_add]⟩
theorem mG_hold {l : List (κ × Int)} : ∀ x ∈ mG e 0 l, x.2.2 < l.length := by
  intro x hx
  obtain ⟨j, y, h1, rfl⟩ := mG_mem hx
  exact (List.getElem?_eq_some_iff.1 h1).1
theorem mG_find : ∀ {l : List (κ × Int)} {i j : Nat} {y : κ × Int}, l[j]? = some y → (mG e i l).find? (fun x => x.2.2 == i + j) = some (e y.1, .int .i64 y.2, i + j)
  | [], _, _, _, h => by simp at h
  | (k, v) :: l, i, 0, y, h => by
    simp only [List.getElem?_cons_zero, Option.some.injEq] at h
    subst h
    simp [mG]
  | (k, v) :: l, i, j + 1, y, h => by
    rw [List.getElem?_cons_succ] at h
    rw [mG, List.find?_cons]
    have h2 : (i == i + (j + 1)) = false := by rw [beq_eq_false_iff_ne]; omega
    simp only [h2]
    have := mG_find (l := l) (i := i + 1) h
    rw [show i + 1 + j = i + (j + 1) by omega] at this
    exact this
theorem mG_find0 {l : List (κ × Int)} {j : Nat} {y : κ × Int} (h : l[j]? = some y) : (mG e 0 l).find? (fun x => x.2.2 == j) = some (e y.1, .int .i64 y.2, j) := by
  have := mG_find (e := e) (i := 0) h
  simpa using this
variable [DecidableEq κ]
def getG : List (κ × Int) → κ → Int
  | [], _ => 0
  | (k, v) :: l, s => if k = s then v else getG l s
def putG : List (κ × Int) → κ → Int → List (κ × Int)
  | [], s, n => [(s, n)]
  | (k, v) :: l, s, n => if k = s then (k, n) :: l else (k, v) :: putG l s n
theorem getG_put (l : List (κ × Int)) (s : κ) (n : Int) (t : κ) : getG (putG l s n) t = if t = s then n else getG l t := by
  induction l with
  | nil =>
    by_cases h : t = s
    · subst h; simp [putG, getG]
    · have h2 : ¬ s = t := fun e => h e.symm
      simp [putG, getG, h, h2]
  | cons p l ih =>
    obtain ⟨k, v⟩ := p
    rw [putG]
    by_cases hk : k = s
    · rw [if_pos hk, getG, getG]
      by_cases h : t = s
      · rw [if_pos h, if_pos (hk.trans h.symm)]
      · have h2 : ¬ k = t := fun e => h (e.symm.trans hk)
        rw [if_neg h, if_neg h2, if_neg h2]
    · rw [if_neg hk, getG, ih, getG]
      by_cases h : t = s
      · subst h; rw [if_pos rfl, if_neg hk, if_pos rfl]
      · rw [if_neg h, if_neg h]
def keysG (l : List (κ × Int)) : List κ := l.map (·.1)
theorem keys_put (l : List (κ × Int)) (s : κ) (n : Int) : (s ∈ keysG l ∧ keysG (putG l s n) = keysG l) ∨ (s ∉ keysG l ∧ keysG (putG l s n) = keysG l ++ [s]) := by
  induction l with
  | nil => right; simp [putG, keysG]
  | cons p l ih =>
    obtain ⟨k, v⟩ := p
    rw [putG]
    by_cases hk : k = s
    · subst hk; left; simp [keysG]
    · have hk2 : ¬ s = k := fun e => hk e.symm
      rw [if_neg hk]
      rcases ih with ⟨h1, h2⟩ | ⟨h1, h2⟩
      · left
        refine ⟨List.mem_cons_of_mem _ h1, ?_⟩
        show k :: keysG (putG l s n) = k :: keysG l
        rw [h2]
      · right
        refine ⟨fun e => ?_, ?_⟩
        · rcases List.mem_cons.1 e with e | e
          · exact hk2 e
          · exact h1 e
        · show k :: keysG (putG l s n) = k :: (keysG l ++ [s])
          rw [h2]
theorem nodup_put {l : List (κ × Int)} (h : (keysG l).Nodup) (s : κ) (n : Int) : (keysG (putG l s n)).Nodup := by
  rcases keys_put l s n with ⟨_, h2⟩ | ⟨hs, h2⟩
  · rw [h2]; exact h
  · rw [h2, List.nodup_append]
    refine ⟨h, by simp, fun a ha b hb => ?_⟩
    simp only [List.mem_singleton] at hb
    subst hb
    exact fun e => hs (e ▸ ha)
theorem keysG_len (l : List (κ × Int)) : (keysG l).length = l.length := List.length_map ..
theorem put_len (l : List (κ × Int)) (s : κ) (n : Int) : (putG l s n).length ≤ l.length + 1 := by
  rcases keys_put l s n with ⟨_, h2⟩ | ⟨hs, h2⟩
  · have := congrArg List.length h2
    rw [keysG_len, keysG_len] at this; omega
  · have := congrArg List.length h2
    rw [List.length_append, keysG_len, keysG_len] at this; simp at this; omega
theorem getG_at : ∀ {l : List (κ × Int)}, (keysG l).Nodup → ∀ {j : Nat} {y : κ × Int}, l[j]? = some y → getG l y.1 = y.2
  | [], _, _, _, h => by simp at h
  | (k, v) :: l, hn, 0, y, h => by
    simp only [List.getElem?_cons_zero, Option.some.injEq] at h
    subst h
    simp [getG]
  | (k, v) :: l, hn, j + 1, y, h => by
    rw [List.getElem?_cons_succ] at h
    simp only [keysG, List.map_cons, List.nodup_cons] at hn
    have hne : ¬ k = y.1 := fun e => hn.1 (by rw [e]; exact List.mem_map_of_mem (List.mem_of_getElem? h))
    rw [getG, if_neg hne]
    exact getG_at hn.2 h
theorem findK_G {P : Program} {kt : TypeId} (hk : ∀ a b, eqKey P kt (e a) (e b) = some (decide (a = b))) (s : κ) : ∀ (l : List (κ × Int)) (i : Nat),
    (findK P kt (e s) (mG e i l) = some none ∧ getG l s = 0 ∧ s ∉ keysG l ∧ ∀ n, mG e i l ++ [(e s, V.int .i64 n, i + l.length)] = mG e i (putG l s n) ∧ (putG l s n).length = l.length + 1) ∨
    (∃ j, findK P kt (e s) (mG e i l) = some (some (j, .int .i64 (getG l s), i + j)) ∧ s ∈ keysG l ∧ ∀ n, (mG e i l).set j (e s, .int .i64 n, i + j) = mG e i (putG l s n) ∧ (putG l s n).length = l.length)
  | [], i => .inl ⟨rfl, rfl, by simp [keysG], fun n => ⟨by simp [mG, putG], rfl⟩⟩
  | (k, v) :: l, i => by
    by_cases h : k = s
    · subst h
      refine .inr ⟨0, ?_, by simp [keysG], fun n => ⟨?_, ?_⟩⟩
      · rw [mG, findK, hk]; simp [getG]
      · simp [mG, putG]
      · simp [putG]
    · have hb : decide (s = k) = false := decide_eq_false (fun e => h e.symm)
      have hb2 : ¬ s = k := fun e => h e.symm
      rcases findK_G hk s l (i + 1) with ⟨h1, h2, h4, h3⟩ | ⟨j, h1, h4, h2⟩
      · refine .inl ⟨?_, ?_, ?_, fun n => ⟨?_, ?_⟩⟩
        · rw [mG, findK, hk, hb]; simp [h1]
        · rw [getG, if_neg h, h2]
        · simp only [keysG, List.map_cons, List.mem_cons, not_or]; exact ⟨hb2, h4⟩
        · have := (h3 n).1
          rw [putG, if_neg h, mG, mG, List.cons_append, ← this, List.length_cons, Nat.add_assoc i 1, Nat.add_comm 1]
        · rw [putG, if_neg h, List.length_cons, (h3 n).2]; rfl
      · refine .inr ⟨j + 1, ?_, ?_, fun n => ⟨?_, ?_⟩⟩
        · rw [mG, findK, hk, hb, getG, if_neg h]
          simp only [h1]
          rw [show i + 1 + j = i + (j + 1) by omega]
        · simp only [keysG, List.map_cons, List.mem_cons]; exact .inr h4
        · have := (h2 n).1
          rw [putG, if_neg h, mG, mG, List.set_cons_succ, ← this, show i + 1 + j = i + (j + 1) by omega]
        · rw [putG, if_neg h, List.length_cons, (h2 n).2]; rfl
theorem lookup_G {P : Program} {h : Heap} {t kt et : TypeId} {a : Nat} {l : List (κ × Int)} (s : κ) (ht : P.underlying t = some (.map kt et)) (hk : ∀ a b, eqKey P kt (e a) (e b) = some (decide (a = b))) (hko : ∀ a, keyOk P kt (e a) = true) (hz : zeroV P et = some (.int .i64 0)) (hb : h.bs[a]? = some (.map (mG e 0 l) l.length)) :
    lookupV P h t (.map a) (e s) false = some (.int .i64 (getG l s)) := by
  unfold lookupV
  rw [ht]
  simp only [hko s, hb]
  rcases findK_G hk s l 0 with ⟨h1, h2, _⟩ | ⟨j, h1, _⟩
  · rw [h1, h2]; simp [hz]
  · rw [h1]; simp
theorem mapUpd_G {P : Program} {h : Heap} {t kt et : TypeId} {a : Nat} {l : List (κ × Int)} (s : κ) (n : Int) (ht : P.underlying t = some (.map kt et)) (hk : ∀ a b, eqKey P kt (e a) (e b) = some (decide (a = b))) (hko : ∀ a, keyOk P kt (e a) = true) (hb : h.bs[a]? = some (.map (mG e 0 l) l.length)) :
    mapUpdV P h t (.map a) (e s) (.int .i64 n) = some { h with bs := h.bs.set a (.map (mG e 0 (putG l s n)) (putG l s n).length) } := by
  unfold mapUpdV
  rw [ht]
  have hc : (V.int IntKind.i64 n).cellsO.isNone = false := rfl
  simp only [hko s, hb, hc]
  rcases findK_G hk s l 0 with ⟨h1, h2, _, h3⟩ | ⟨j, h1, _, h2⟩
  · have := h3 n
    rw [Nat.zero_add] at this
    rw [h1]; simp [this.1, this.2]
  · have := h2 n
    rw [h1]; simp
    rw [Nat.zero_add] at this
    rw [this.1, this.2]
end
theorem entry_G {κ : Type} {e : κ → V} {h : Heap} {i a since j : Nat} {seen : List Nat} {l : List (κ × Int)} {y : κ × Int} (hi : h.bs[i]? = some (.iter (some a) since (seen ++ [j]) l.length)) (ha : h.bs[a]? = some (.map (mG e 0 l) l.length)) (hy : l[j]? = some y) :
    entryV h (.ptr i 0) = some (.tuple [e y.1, .int .i64 y.2]) := by
  unfold entryV
  simp only [hi, ha, List.getLast?_append, List.getLast?_singleton, Option.some_or, if_true, mG_find0 hy, Option.map_some]
/-- how many entries have not been met -/
def leftG (es : List (V × V × Nat)) (seen : List Nat) : Nat := (es.filter fun x => decide (x.2.2 ∉ seen)).length
theorem leftG_le (es : List (V × V × Nat)) (seen : List Nat) (b : Nat) : leftG es (seen ++ [b]) ≤ leftG es seen := by
  induction es with
  | nil => simp [leftG]
  | cons y es ih =>
    unfold leftG at ih ⊢
    rw [List.filter_cons, List.filter_cons]
    by_cases h : y.2.2 ∈ seen
    · rw [if_neg (by simp [h]), if_neg (by simp [h])]; exact ih
    · rw [if_pos (show decide (y.2.2 ∉ seen) = true from decide_eq_true h)]
      split <;> simp only [List.length_cons] <;> omega
theorem leftG_lt {es : List (V × V × Nat)} {seen : List Nat} {x : V × V × Nat} (hx : x ∈ es) (h : x.2.2 ∉ seen) : leftG es (seen ++ [x.2.2]) < leftG es seen := by
  induction es with
  | nil => cases hx
  | cons y es ih =>
    by_cases hy : y = x
    · subst hy
      have := leftG_le es seen y.2.2
      unfold leftG at this ⊢
      rw [List.filter_cons, List.filter_cons, if_neg (by simp), if_pos (decide_eq_true h), List.length_cons]
      omega
    · have hx' : x ∈ es := by
        rcases List.mem_cons.1 hx with e | e
        · exact absurd e.symm hy
        · exact e
      have ih := ih hx'
      unfold leftG at ih ⊢
      rw [List.filter_cons, List.filter_cons]
      by_cases h2 : y.2.2 ∈ seen
      · rw [if_neg (by simp [h2]), if_neg (by simp [h2])]; exact ih
      · rw [if_pos (show decide (y.2.2 ∉ seen) = true from decide_eq_true h2)]
        split <;> simp only [List.length_cons] <;> omega
theorem leftG_zero {es : List (V × V × Nat)} {seen : List Nat} (h : leftG es seen = 0) : ∀ x ∈ es, x.2.2 ∈ seen := by
  intro x hx
  unfold leftG at h
  have := List.length_eq_zero_iff.1 h
  rw [List.filter_eq_nil_iff] at this
  have := this x hx
  simpa using this
end Go.Ab
