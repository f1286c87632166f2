/- A part of the proof. -/
import Derived.Test.YtippeibeiofmnaaDoorAbsD
import Derived.Test.YtippeibeiofmnaaDoorGr2
import Derived.Test.YtippeibeiofmnaaDoorGr9
set_option linter.unusedVariables false
set_option linter.unusedSimpArgs false
set_option linter.unusedSectionVars false
set_option linter.deprecated false
namespace Go.Ab
section
variable {κ : Type} {e : κ → V}
def mG (e : κ → V) : Nat → List (κ × Int) → List (V × V × Nat)
 | _, [] => []
 | i, (k, v) :: l => (e k, .int .i64 v, i) :: mG e (i + 1) l
theorem mG_len : ∀ (l : List (κ × Int)) (i : Nat), (mG e i l).length = l.length
 | [], _ => rfl
 | (k, v) :: l, i => by rw [mG, List.length_cons, mG_len l, List.length_cons]
theorem mG_get : ∀ (l : List (κ × Int)) (i j : Nat), (mG e i l)[j]? = (l[j]?).map fun x => (e x.1, .int .i64 x.2, i + j)
 | [], _, _ => by simp [mG]
 | (k, v) :: l, i, 0 => by simp [mG]
 | (k, v) :: l, i, j + 1 => by
  rw [mG, List.getElem?_cons_succ, mG_get l (i + 1) j, List.getElem?_cons_succ]
  simp only [show i + 1 + j = i + (j + 1) by omega]
theorem mG_mem {l : List (κ × Int)} {x : V × V × Nat} (h : x ∈ mG e 0 l) : ∃ j y, l[j]? = some y ∧ x = (e y.1, .int .i64 y.2, j) := by
 obtain ⟨j, hj⟩ := List.mem_iff_getElem?.1 h
 rw [mG_get, Option.map_eq_some_iff] at hj
 obtain ⟨y, h1, h2⟩ := hj
 exact ⟨j, y, h1, by rw [← h2, Nat.zero_add]⟩
theorem mG_hold {l : List (κ × Int)} : ∀ x ∈ mG e 0 l, x.2.2 < l.length := by
 intro x hx
 obtain ⟨j, y, h1, rfl⟩ := mG_mem hx
 exact (List.getElem?_eq_some_iff.1 h1).1
theorem mG_find : ∀ {l : List (κ × Int)} {i j : Nat} {y : κ × Int}, l[j]? = some y → (mG e i l).find? (fun x => x.2.2 == i + j) = some (e y.1, .int .i64 y.2, i + j)
 | [], _, _, _, h => by simp at h
 | (k, v) :: l, i, 0, y, h => by
  simp only [List.getElem?_cons_zero, Option.some.injEq] at h
  subst h
  simp [mG]
 | (k, v) :: l, i, j + 1, y, h => by
  rw [List.getElem?_cons_succ] at h
  rw [mG, List.find?_cons]
  have h2 : (i == i + (j + 1)) = false := by rw [beq_eq_false_iff_ne]; omega
  simp only [h2]
  have := mG_find (l := l) (i := i + 1) h
  rw [show i + 1 + j = i + (j + 1) by omega] at this
  exact this
theorem mG_find0 {l : List (κ × Int)} {j : Nat} {y : κ × Int} (h : l[j]? = some y) : (mG e 0 l).find? (fun x => x.2.2 == j) = some (e y.1, .int .i64 y.2, j) := by
 have := mG_find (e := e) (i := 0) h
 simpa using this
variable [DecidableEq κ]
def getG : List (κ × Int) → κ → Int
 | [], _ => 0
 | (k, v) :: l, s => if k = s then v else getG l s
def putG : List (κ × Int) → κ → Int → List (κ × Int)
 | [], s, n => [(s, n)]
 | (k, v) :: l, s, n => if k = s then (k, n) :: l else (k, v) :: putG l s n
theorem getG_put (l : List (κ × Int)) (s : κ) (n : Int) (t : κ) : getG (putG l s n) t = if t = s then n else getG l t := by
 induction l with
 | nil =>
  by_cases h : t = s
  ·subst h; simp [putG, getG]
  ·have h2 : ¬ s = t := fun e => h e.symm
   simp [putG, getG, h, h2]
 | cons p l ih =>
  obtain ⟨k, v⟩ := p
  rw [putG]
  by_cases hk : k = s
  ·rw [if_pos hk, getG, getG]
   by_cases h : t = s
   ·rw [if_pos h, if_pos (hk.trans h.symm)]
   ·have h2 : ¬ k = t := fun e => h (e.symm.trans hk)
    rw [if_neg h, if_neg h2, if_neg h2]
  ·rw [if_neg hk, getG, ih, getG]
   by_cases h : t = s
   ·subst h; rw [if_pos rfl, if_neg hk, if_pos rfl]
   ·rw [if_neg h, if_neg h]
def keysG (l : List (κ × Int)) : List κ := l.map (·.1)
theorem keys_put (l : List (κ × Int)) (s : κ) (n : Int) : (s ∈ keysG l ∧ keysG (putG l s n) = keysG l) ∨ (s ∉ keysG l ∧ keysG (putG l s n) = keysG l ++ [s]) := by
 induction l with
 | nil => right; simp [putG, keysG]
 | cons p l ih =>
  obtain ⟨k, v⟩ := p
  rw [putG]
  by_cases hk : k = s
  ·subst hk; left; simp [keysG]
  ·have hk2 : ¬ s = k := fun e => hk e.symm
   rw [if_neg hk]
   rcases ih with ⟨h1, h2⟩ | ⟨h1, h2⟩
   ·left
    refine ⟨List.mem_cons_of_mem _ h1, ?_⟩
    show k :: keysG (putG l s n) = k :: keysG l
    rw [h2]
   ·right
    refine ⟨fun e => ?_, ?_⟩
    ·rcases List.mem_cons.1 e with e | e
     ·exact hk2 e
     ·exact h1 e
    ·show k :: keysG (putG l s n) = k :: (keysG l ++ [s])
     rw [h2]
theorem nodup_put {l : List (κ × Int)} (h : (keysG l).Nodup) (s : κ) (n : Int) : (keysG (putG l s n)).Nodup := by
 rcases keys_put l s n with ⟨_, h2⟩ | ⟨hs, h2⟩
 ·rw [h2]; exact h
 ·rw [h2, List.nodup_append]
  refine ⟨h, by simp, fun a ha b hb => ?_⟩
  simp only [List.mem_singleton] at hb
  subst hb
  exact fun e => hs (e ▸ ha)
theorem keysG_len (l : List (κ × Int)) : (keysG l).length = l.length := List.length_map ..
theorem put_len (l : List (κ × Int)) (s : κ) (n : Int) : (putG l s n).length ≤ l.length + 1 := by
 rcases keys_put l s n with ⟨_, h2⟩ | ⟨hs, h2⟩
 ·have := congrArg List.length h2
  rw [keysG_len, keysG_len] at this; omega
 ·have := congrArg List.length h2
  rw [List.length_append, keysG_len, keysG_len] at this; simp at this; omega
theorem getG_at : ∀ {l : List (κ × Int)}, (keysG l).Nodup → ∀ {j : Nat} {y : κ × Int}, l[j]? = some y → getG l y.1 = y.2
 | [], _, _, _, h => by simp at h
 | (k, v) :: l, hn, 0, y, h => by
  simp only [List.getElem?_cons_zero, Option.some.injEq] at h
  subst h
  simp [getG]
 | (k, v) :: l, hn, j + 1, y, h => by
  rw [List.getElem?_cons_succ] at h
  simp only [keysG, List.map_cons, List.nodup_cons] at hn
  have hne : ¬ k = y.1 := fun e => hn.1 (by rw [e]; exact List.mem_map_of_mem (List.mem_of_getElem? h))
  rw [getG, if_neg hne]
  exact getG_at hn.2 h
theorem findK_G {P : Program} {kt : TypeId} (hk : ∀ a b, eqKey P kt (e a) (e b) = some (decide (a = b))) (s : κ) : ∀ (l : List (κ × Int)) (i : Nat),
  (findK P kt (e s) (mG e i l) = some none ∧ getG l s = 0 ∧ s ∉ keysG l ∧ ∀ n, mG e i l ++ [(e s, V.int .i64 n, i + l.length)] = mG e i (putG l s n) ∧ (putG l s n).length = l.length + 1) ∨
  (∃ j, findK P kt (e s) (mG e i l) = some (some (j, .int .i64 (getG l s), i + j)) ∧ s ∈ keysG l ∧ ∀ n, (mG e i l).set j (e s, .int .i64 n, i + j) = mG e i (putG l s n) ∧ (putG l s n).length = l.length)
 | [], i => .inl ⟨rfl, rfl, by simp [keysG], fun n => ⟨by simp [mG, putG], rfl⟩⟩
 | (k, v) :: l, i => by
  by_cases h : k = s
  ·subst h
   refine .inr ⟨0, ?_, by simp [keysG], fun n => ⟨?_, ?_⟩⟩
   ·rw [mG, findK, hk]; simp [getG]
   ·simp [mG, putG]
   ·simp [putG]
  ·have hb : decide (s = k) = false := decide_eq_false (fun e => h e.symm)
   have hb2 : ¬ s = k := fun e => h e.symm
   rcases findK_G hk s l (i + 1) with ⟨h1, h2, h4, h3⟩ | ⟨j, h1, h4, h2⟩
   ·refine .inl ⟨?_, ?_, ?_, fun n => ⟨?_, ?_⟩⟩
    ·rw [mG, findK, hk, hb]; simp [h1]
    ·rw [getG, if_neg h, h2]
    ·simp only [keysG, List.map_cons, List.mem_cons, not_or]; exact ⟨hb2, h4⟩
    ·have := (h3 n).1
     rw [putG, if_neg h, mG, mG, List.cons_append, ← this, List.length_cons, Nat.add_assoc i 1, Nat.add_comm 1]
    ·rw [putG, if_neg h, List.length_cons, (h3 n).2]; rfl
   ·refine .inr ⟨j + 1, ?_, ?_, fun n => ⟨?_, ?_⟩⟩
    ·rw [mG, findK, hk, hb, getG, if_neg h]
     simp only [h1]
     rw [show i + 1 + j = i + (j + 1) by omega]
    ·simp only [keysG, List.map_cons, List.mem_cons]; exact .inr h4
    ·have := (h2 n).1
     rw [putG, if_neg h, mG, mG, List.set_cons_succ, ← this, show i + 1 + j = i + (j + 1) by omega]
    ·rw [putG, if_neg h, List.length_cons, (h2 n).2]; rfl
theorem lookup_G {P : Program} {h : Heap} {t kt et : TypeId} {a : Nat} {l : List (κ × Int)} (s : κ) (ht : P.underlying t = some (.map kt et)) (hk : ∀ a b, eqKey P kt (e a) (e b) = some (decide (a = b))) (hko : ∀ a, keyOk P kt (e a) = true) (hz : zeroV P et = some (.int .i64 0)) (hb : h.bs[a]? = some (.map (mG e 0 l) l.length)) :
  lookupV P h t (.map a) (e s) false = some (.int .i64 (getG l s)) := by
 unfold lookupV
 rw [ht]
 simp only [hko s, hb]
 rcases findK_G hk s l 0 with ⟨h1, h2, _⟩ | ⟨j, h1, _⟩
 ·rw [h1, h2]; simp [hz]
 ·rw [h1]; simp
theorem mapUpd_G {P : Program} {h : Heap} {t kt et : TypeId} {a : Nat} {l : List (κ × Int)} (s : κ) (n : Int) (ht : P.underlying t = some (.map kt et)) (hk : ∀ a b, eqKey P kt (e a) (e b) = some (decide (a = b))) (hko : ∀ a, keyOk P kt (e a) = true) (hb : h.bs[a]? = some (.map (mG e 0 l) l.length)) :
  mapUpdV P h t (.map a) (e s) (.int .i64 n) = some { h with bs := h.bs.set a (.map (mG e 0 (putG l s n)) (putG l s n).length) } := by
 unfold mapUpdV
 rw [ht]
 have hc : (V.int IntKind.i64 n).cellsO.isNone = false := rfl
 simp only [hko s, hb, hc]
 rcases findK_G hk s l 0 with ⟨h1, h2, _, h3⟩ | ⟨j, h1, _, h2⟩
 ·have := h3 n
  rw [Nat.zero_add] at this
  rw [h1]; simp [this.1, this.2]
 ·have := h2 n
  rw [h1]; simp
  rw [Nat.zero_add] at this
  rw [this.1, this.2]
end
theorem entry_G {κ : Type} {e : κ → V} {h : Heap} {i a since j : Nat} {seen : List Nat} {l : List (κ × Int)} {y : κ × Int} (hi : h.bs[i]? = some (.iter (some a) since (seen ++ [j]) l.length)) (ha : h.bs[a]? = some (.map (mG e 0 l) l.length)) (hy : l[j]? = some y) :
  entryV h (.ptr i 0) = some (.tuple [e y.1, .int .i64 y.2]) := by
 unfold entryV
 simp only [hi, ha, List.getLast?_append, List.getLast?_singleton, Option.some_or, if_true, mG_find0 hy, Option.map_some]
def leftG (es : List (V × V × Nat)) (seen : List Nat) : Nat := (es.filter fun x => decide (x.2.2 ∉ seen)).length
theorem leftG_le (es : List (V × V × Nat)) (seen : List Nat) (b : Nat) : leftG es (seen ++ [b]) ≤ leftG es seen := by
 induction es with
 | nil => simp [leftG]
 | cons y es ih =>
  unfold leftG at ih ⊢
  rw [List.filter_cons, List.filter_cons]
  by_cases h : y.2.2 ∈ seen
  ·rw [if_neg (by simp [h]), if_neg (by simp [h])]; exact ih
  ·rw [if_pos (show decide (y.2.2 ∉ seen) = true from decide_eq_true h)]
   split <;> simp only [List.length_cons] <;> omega
theorem leftG_lt {es : List (V × V × Nat)} {seen : List Nat} {x : V × V × Nat} (hx : x ∈ es) (h : x.2.2 ∉ seen) : leftG es (seen ++ [x.2.2]) < leftG es seen := by
 induction es with
 | nil => cases hx
 | cons y es ih =>
  by_cases hy : y = x
  ·subst hy
   have := leftG_le es seen y.2.2
   unfold leftG at this ⊢
   rw [List.filter_cons, List.filter_cons, if_neg (by simp), if_pos (decide_eq_true h), List.length_cons]
   omega
  ·have hx' : x ∈ es := by
    rcases List.mem_cons.1 hx with e | e
    ·exact absurd e.symm hy
    ·exact e
   have ih := ih hx'
   unfold leftG at ih ⊢
   rw [List.filter_cons, List.filter_cons]
   by_cases h2 : y.2.2 ∈ seen
   ·rw [if_neg (by simp [h2]), if_neg (by simp [h2])]; exact ih
   ·rw [if_pos (show decide (y.2.2 ∉ seen) = true from decide_eq_true h2)]
    split <;> simp only [List.length_cons] <;> omega
theorem leftG_zero {es : List (V × V × Nat)} {seen : List Nat} (h : leftG es seen = 0) : ∀ x ∈ es, x.2.2 ∈ seen := by
 intro x hx
 unfold leftG at h
 have := List.length_eq_zero_iff.1 h
 rw [List.filter_eq_nil_iff] at this
 have := this x hx
 simpa using this
end Go.Ab
namespace Go.Ab
open Go.Proofs
set_option maxRecDepth 100000
def KeyZ (t : List Sgn) (w : List Int) : Prop := w = [] ∨ ∃ k a, k < t.length ∧ 1 ≤ a ∧ a < (nth t k).cells.length ∧ w = (nth t k).cells.drop a
theorem KeyZ.dots {t : List Sgn} (ht : sTab t) {w : List Int} (h : KeyZ t w) : dotsL w = true ∧ w.length ≤ 4 := by
 rcases h with rfl | ⟨k, a, hk, _, _, rfl⟩
 ·exact ⟨rfl, by simp⟩
 ·obtain ⟨_, h2, h3⟩ := ht.2 k hk
  exact ⟨dots_drop h3 a, by rw [List.length_drop]; omega⟩
theorem KeyZ.drop {t : List Sgn} {k a : Nat} (hk : k < t.length) (ha : 1 ≤ a) : KeyZ t ((nth t k).cells.drop a) := by
 by_cases h : a < (nth t k).cells.length
 ·exact .inr ⟨k, a, hk, ha, h, rfl⟩
 ·exact .inl (List.drop_eq_nil_of_le (by omega))
theorem KeyZ.step {t : List Sgn} (ht : sTab t) {w : List Int} (h : KeyZ t w) (hw : w ≠ []) {k : Nat} (hk : k < t.length) (ho : (stepZ w (nth t k).cells).2.2.2 = true) : KeyZ t (stepZ w (nth t k).cells).1 := by
 unfold stepZ at ho ⊢
 split
 ·rcases h with h | ⟨j, a, hj, ha, _, rfl⟩
  ·exact absurd h hw
  ·simp only [List.drop_drop]
   exact KeyZ.drop hj (by omega)
 ·split
  ·exact KeyZ.drop hk (by
    cases w with
    | nil => exact absurd rfl hw
    | cons x l => simp)
  ·rename_i h1 h2
   rw [if_neg h1, if_neg h2] at ho
   simp at ho
structure FillI (t : List Sgn) (D : List (Wd × Int)) : Prop where
 nd : (keysG D).Nodup
 ks : ∀ u, u ∈ keysG D ↔ ∃ w, KeyZ t w ∧ u = bZ w
 z : getG D [] = 0
 v : ∀ w, KeyZ t w → w ≠ [] → getG D (bZ w) = neverZ ∨ Ends t w (getG D (bZ w))
 le : ∀ w, KeyZ t w → getG D (bZ w) ≤ neverZ
theorem FillI.ends {t : List Sgn} {D : List (Wd × Int)} (h : FillI t D) {w : List Int} (hw : KeyZ t w) (hl : getG D (bZ w) < neverZ) : Ends t w (getG D (bZ w)) := by
 by_cases e : w = []
 ·subst e
  have : getG D (bZ []) = 0 := h.z
  rw [this]; exact .nil
 ·rcases h.v w hw e with h1 | h1
  ·omega
  ·exact h1
theorem FillI.nn {t : List Sgn} {D : List (Wd × Int)} (h : FillI t D) {w : List Int} (hw : KeyZ t w) : 0 ≤ getG D (bZ w) := by
 rcases Int.lt_or_le (getG D (bZ w)) neverZ with h1 | h1
 ·exact (h.ends hw h1).nn
 ·have : (0 : Int) ≤ neverZ := by decide
  omega
def sumD (D : List (Wd × Int)) : Nat := (D.map fun x => x.2.toNat).sum
theorem sumD_put : ∀ {D : List (Wd × Int)} {s : Wd} {n : Int}, s ∈ keysG D → 0 ≤ n → n < getG D s → sumD (putG D s n) < sumD D
 | [], _, _, h, _, _ => by simp [keysG] at h
 | (k, v) :: D, s, n, h, h0, hl => by
  rw [getG] at hl
  rw [putG]
  by_cases e : k = s
  ·rw [if_pos e] at hl ⊢
   simp only [sumD, List.map_cons, List.sum_cons]
   omega
  ·rw [if_neg e] at hl ⊢
   have h2 : s ∈ keysG D := by
    simp only [keysG, List.map_cons, List.mem_cons] at h
    rcases h with h | h
    ·exact absurd h.symm e
    ·exact h
   have := sumD_put h2 h0 hl
   simp only [sumD, List.map_cons, List.sum_cons] at this ⊢
   omega
theorem FillI.lower {t : List Sgn} (ht : sTab t) {D : List (Wd × Int)} (h : FillI t D) {w : List Int} (hw : KeyZ t w) (hne : w ≠ []) {k : Nat} (hk : k < t.length) (ho : (stepZ w (nth t k).cells).2.2.2 = true)
  (hl : (stepZ w (nth t k).cells).2.1 + getG D (bZ (stepZ w (nth t k).cells).1) < getG D (bZ w)) :
  FillI t (putG D (bZ w) ((stepZ w (nth t k).cells).2.1 + getG D (bZ (stepZ w (nth t k).cells).1))) ∧ sumD (putG D (bZ w) ((stepZ w (nth t k).cells).2.1 + getG D (bZ (stepZ w (nth t k).cells).1))) < sumD D := by
 have hs := hw.step ht hne hk ho
 have hn := stepZ_nn w (nth t k).cells
 have hnn := h.nn hs
 have hle := h.le w hw
 have he := Ends.step hne hk ho (h.ends hs (by omega))
 have hmem : bZ w ∈ keysG D := (h.ks _).2 ⟨w, hw, rfl⟩
 have hg := getG_put D (bZ w) ((stepZ w (nth t k).cells).2.1 + getG D (bZ (stepZ w (nth t k).cells).1))
 generalize hx : (stepZ w (nth t k).cells).2.1 + getG D (bZ (stepZ w (nth t k).cells).1) = x at *
 refine ⟨⟨nodup_put h.nd _ _, fun u => ?_, ?_, fun w' hw' hne' => ?_, fun w' hw' => ?_⟩, sumD_put hmem (by omega) hl⟩
 ·rcases keys_put D (bZ w) x with ⟨_, e⟩ | ⟨e, _⟩
  ·rw [e]; exact h.ks u
  ·exact absurd hmem e
 ·rw [hg, if_neg (fun e => hne (bZ_nil.1 e.symm))]; exact h.z
 ·rw [hg]
  split
  ·rename_i e
   have : w' = w := bZ_inj (hw'.dots ht).1 (hw.dots ht).1 e
   subst this
   exact .inr he
  ·exact h.v w' hw' hne'
 ·rw [hg]
  split
  ·omega
  ·exact h.le w' hw'
def ClosedAt (t : List Sgn) (D : List (Wd × Int)) (w : List Int) (m : Nat) : Prop := w ≠ [] → ∀ k, k < m → (stepZ w (nth t k).cells).2.2.2 = true → ¬ (stepZ w (nth t k).cells).2.1 + getG D (bZ (stepZ w (nth t k).cells).1) < getG D (bZ w)
theorem FillI.done {t : List Sgn} (ht : sTab t) {D : List (Wd × Int)} (h : FillI t D) (hc : ∀ w, KeyZ t w → ClosedAt t D w t.length) : ∀ w, KeyZ t w → getG D (bZ w) = costZ t w := by
 intro w hw
 by_cases e : w = []
 ·subst e; rw [costZ_nil]; exact h.z
 ·exact cost_closed (t := t) (S := KeyZ t) (c := fun w => getG D (bZ w)) h.z (fun w h1 h2 => h.v w h1 h2) (fun w h1 => h.le w h1)
   (fun w k h1 h2 h3 h4 => ⟨.inr (h1.step ht h2 h3 h4), by have := hc w h1 h2 k h3 h4; omega⟩) w hw e
def KeyTo (t : List Sgn) (i b : Nat) (w : List Int) : Prop := w = [] ∨ ∃ k a, k < t.length ∧ 1 ≤ a ∧ a < (nth t k).cells.length ∧ (k < i ∨ k = i ∧ a < b) ∧ w = (nth t k).cells.drop a
structure FillS (t : List Sgn) (D : List (Wd × Int)) (i b : Nat) : Prop where
 nd : (keysG D).Nodup
 ks : ∀ u, u ∈ keysG D ↔ ∃ w, KeyTo t i b w ∧ u = bZ w
 z : getG D [] = 0
 v : ∀ u, u ∈ keysG D → u ≠ [] → getG D u = neverZ
theorem FillS.start (t : List Sgn) : FillS t [([], 0)] 0 1 := by
 refine ⟨by simp [keysG], fun u => ?_, rfl, fun u h1 h2 => ?_⟩
 ·simp only [keysG, List.map_cons, List.map_nil, List.mem_singleton]
  constructor
  ·rintro rfl; exact ⟨[], .inl rfl, rfl⟩
  ·rintro ⟨w, h | ⟨k, a, _, h1, _, h2 | ⟨_, h2⟩, _⟩, rfl⟩
   ·rw [h]; rfl
   ·omega
   ·omega
 ·simp [keysG] at h1; exact absurd h1 h2
theorem FillS.next {t : List Sgn} {D : List (Wd × Int)} {i b : Nat} (h : FillS t D i b) (hi : i < t.length) (hb : 1 ≤ b) (hl : b < (nth t i).cells.length) : FillS t (putG D (bZ ((nth t i).cells.drop b)) neverZ) i (b + 1) := by
 have hg := getG_put D (bZ ((nth t i).cells.drop b)) neverZ
 have hne : bZ ((nth t i).cells.drop b) ≠ [] := fun e => by
  have := congrArg List.length (bZ_nil.1 e)
  rw [List.length_drop] at this; simp at this; omega
 have hk : ∀ u, u ∈ keysG (putG D (bZ ((nth t i).cells.drop b)) neverZ) ↔ u ∈ keysG D ∨ u = bZ ((nth t i).cells.drop b) := fun u => by
  rcases keys_put D (bZ ((nth t i).cells.drop b)) neverZ with ⟨e1, e2⟩ | ⟨e1, e2⟩
  ·rw [e2]
   constructor
   ·exact .inl
   ·rintro (h | rfl)
    ·exact h
    ·exact e1
  ·rw [e2, List.mem_append, List.mem_singleton]
 refine ⟨nodup_put h.nd _ _, fun u => ?_, ?_, fun u h1 h2 => ?_⟩
 ·rw [hk, h.ks]
  constructor
  ·rintro (⟨w, hw, rfl⟩ | rfl)
   ·refine ⟨w, ?_, rfl⟩
    rcases hw with hw | ⟨k, a, e1, e2, e3, e4, e5⟩
    ·exact .inl hw
    ·exact .inr ⟨k, a, e1, e2, e3, by omega, e5⟩
   ·exact ⟨_, .inr ⟨i, b, hi, hb, hl, by omega, rfl⟩, rfl⟩
  ·rintro ⟨w, hw, rfl⟩
   rcases hw with hw | ⟨k, a, e1, e2, e3, e4, e5⟩
   ·exact .inl ⟨w, .inl hw, rfl⟩
   ·by_cases e : k = i ∧ a = b
    ·right; rw [e5, e.1, e.2]
    ·exact .inl ⟨w, .inr ⟨k, a, e1, e2, e3, by omega, e5⟩, rfl⟩
 ·rw [hg, if_neg (fun e => hne e.symm)]; exact h.z
 ·rw [hg]
  split
  ·rfl
  ·rename_i e
   rcases (hk u).1 h1 with h3 | h3
   ·exact h.v u h3 h2
   ·exact absurd h3 e
theorem FillS.row {t : List Sgn} {D : List (Wd × Int)} {i b : Nat} (h : FillS t D i b) (hl : (nth t i).cells.length ≤ b) : FillS t D (i + 1) 1 := by
 refine ⟨h.nd, fun u => (h.ks u).trans ⟨?_, ?_⟩, h.z, h.v⟩
 ·rintro ⟨w, hw, rfl⟩
  refine ⟨w, ?_, rfl⟩
  rcases hw with hw | ⟨k, a, e1, e2, e3, e4, e5⟩
  ·exact .inl hw
  ·exact .inr ⟨k, a, e1, e2, e3, by omega, e5⟩
 ·rintro ⟨w, hw, rfl⟩
  refine ⟨w, ?_, rfl⟩
  rcases hw with hw | ⟨k, a, e1, e2, e3, e4, e5⟩
  ·exact .inl hw
  ·refine .inr ⟨k, a, e1, e2, e3, ?_, e5⟩
   by_cases e : k = i
   ·subst e; right; omega
   ·left; omega
theorem FillS.all {t : List Sgn} (_ht : sTab t) {D : List (Wd × Int)} (h : FillS t D t.length 1) : FillI t D := by
 have hk : ∀ u, u ∈ keysG D ↔ ∃ w, KeyZ t w ∧ u = bZ w := fun u => (h.ks u).trans ⟨by
  rintro ⟨w, hw, rfl⟩
  refine ⟨w, ?_, rfl⟩
  rcases hw with hw | ⟨k, a, e1, e2, e3, e4, e5⟩
  ·exact .inl hw
  ·exact .inr ⟨k, a, e1, e2, e3, e5⟩, by
  rintro ⟨w, hw, rfl⟩
  refine ⟨w, ?_, rfl⟩
  rcases hw with hw | ⟨k, a, e1, e2, e3, e5⟩
  ·exact .inl hw
  ·exact .inr ⟨k, a, e1, e2, e3, by omega, e5⟩⟩
 have hv : ∀ w, KeyZ t w → w ≠ [] → getG D (bZ w) = neverZ := fun w hw hne => h.v _ ((hk _).2 ⟨w, hw, rfl⟩) (fun e => hne (bZ_nil.1 e))
 refine ⟨h.nd, hk, h.z, fun w hw hne => .inl (hv w hw hne), fun w hw => ?_⟩
 by_cases e : w = []
 ·subst e
  have : getG D (bZ []) = 0 := h.z
  rw [this]; decide
 ·rw [hv w hw e]; exact Int.le_refl _
end Go.Ab
namespace Go.Ab
open Go.Proofs
set_option maxRecDepth 100000
set_option maxHeartbeats 8000000
def sK (k : Wd) : V := .str k
theorem sK_eq (a b : Wd) : eqKey Tryd.prog 72 (sK a) (sK b) = some (decide (a = b)) := by
 simp [eqKey, sK]
 by_cases h : a = b <;> simp [h]
theorem sK_ok (a : Wd) : keyOk Tryd.prog 72 (sK a) = true := by simp [keyOk, sK]
theorem lookS {h : Heap} {n : Nat} {D : List (Wd × Int)} (r : Wd) (hb : h.bs[n]? = some (.map (mG sK 0 D) D.length)) : lookupV Tryd.prog h 69 (.map n) (.str r) false = some (.int .i64 (getG D r)) :=
 lookup_G (e := sK) (kt := 72) (et := 3) r (by simp) sK_eq sK_ok (by simp) hb
theorem updS {h : Heap} {n : Nat} {D : List (Wd × Int)} (r : Wd) (x : Int) (hb : h.bs[n]? = some (.map (mG sK 0 D) D.length)) : mapUpdV Tryd.prog h 69 (.map n) (.str r) (.int .i64 x) = some ⟨h.bs.set n (.map (mG sK 0 (putG D r x)) (putG D r x).length), h.ts⟩ :=
 mapUpd_G (e := sK) (kt := 72) (et := 3) r x (by simp) sK_eq sK_ok hb
def srcB (t : List Sgn) (fl : Fl) (X : List Blk) (D : List (Wd × Int)) (Y : List Blk) : List Blk := .cells [R fl eS (sigZ t), .map (X.length + 1)] :: (X ++ .map (mG sK 0 D) D.length :: Y)
theorem srcB_0 {t : List Sgn} {fl : Fl} {X Y : List Blk} {D : List (Wd × Int)} : (srcB t fl X D Y)[0]? = some (.cells [R fl eS (sigZ t), .map (X.length + 1)]) := rfl
theorem srcB_m {t : List Sgn} {fl : Fl} {X Y : List Blk} {D : List (Wd × Int)} : (srcB t fl X D Y)[X.length + 1]? = some (.map (mG sK 0 D) D.length) := by
 unfold srcB
 rw [List.getElem?_cons_succ, List.getElem?_append_right (by omega)]; simp
theorem srcB_set {t : List Sgn} {fl : Fl} {X Y : List Blk} {D D2 : List (Wd × Int)} : (srcB t fl X D Y).set (X.length + 1) (.map (mG sK 0 D2) D2.length) = srcB t fl X D2 Y := by
 unfold srcB
 rw [List.set_cons_succ, List.set_append_right _ _ (by omega)]; simp
theorem srcB_app {t : List Sgn} {fl : Fl} {X Y Z : List Blk} {D : List (Wd × Int)} : srcB t fl X D Y ++ Z = srcB t fl X D (Y ++ Z) := by simp [srcB]
theorem srcB_len {t : List Sgn} {fl : Fl} {X Y : List Blk} {D : List (Wd × Int)} : (srcB t fl X D Y).length = X.length + Y.length + 2 := by simp [srcB]; omega
theorem srcB_it {t : List Sgn} {fl : Fl} {X Y Z : List Blk} {z : Blk} {D : List (Wd × Int)} : (srcB t fl X D (Y ++ z :: Z))[X.length + Y.length + 2]? = some z := by
 rw [← srcB_app, List.getElem?_append_right (by rw [srcB_len]; exact Nat.le_refl _), srcB_len]; simp
theorem srcB_its {t : List Sgn} {fl : Fl} {X Y Z : List Blk} {z z2 : Blk} {D : List (Wd × Int)} : (srcB t fl X D (Y ++ z :: Z)).set (X.length + Y.length + 2) z2 = srcB t fl X D (Y ++ z2 :: Z) := by
 rw [← srcB_app, List.set_append_right _ _ (by rw [srcB_len]; exact Nat.le_refl _), srcB_len, ← srcB_app]; simp
attribute [irreducible] srcB
theorem fillNB {t : List Sgn} (ht : sTab t) (fl : Fl) (X : List Blk) (ts : List (Option Nat)) : NB cfg 44 [.ptr 0 0] ⟨.cells [R fl eS (sigZ t), .nilmap] :: X, ts⟩
  (fun r h => r = .ret (.tuple []) ∧ ∃ D Y, h = ⟨srcB t fl X D Y, ts⟩ ∧ ∀ w, KeyZ t w → getG D (bZ w) = costZ t w) := by
 refine nb_of_nsf (c := cfg) hP hX (fn := Tryd.f44) Tryd.func44 rfl (by simp [Tryd.f44]) ?_
 have hsl := sigZ_len t
 have htl := ht.1
 have u0 := fun ts => updS (h := ⟨.cells [R fl eS (sigZ t), .nilmap] :: (X ++ [.map (mG sK 0 []) 0]), ts⟩) (n := X.length + 1) (D := []) [] 0 (by simp)
 simp [mG] at u0
 simp (disch := first | assumption | omega | (simp; done) | (simp; omega)) [-getElem?_pos, gZ, gS, Tryd.f44]
 refine nsf_scope ?_
 repeat' (first | (refine nsf_detN hP hX (by decide +kernel) ?_) | (refine nsf_seq ?_) | (refine nsf_block ?_) | ((first | refine wpc_split _ ?_ ?_ | refine ww_split _ ?_ ?_) <;> intro hc <;> try simp at hc) | (refine wp_drawF (by kernel_rfl) ?_) | refine wk_yldW _ ?_ | refine layOwe _ (by kernel_rfl) ?_ | refine owe ?_ (fun ho => ?_) | (simp (disch := first | assumption | omega | (simp; done) | (simp; omega)) [hsl, u0, sK, putG, mG, -getElem?_pos, gZ, gS]))
 clear u0
 refine wp_loopE cfg rfl (fun f0 h0 m fr h => ∃ i : Nat, ∃ D : List (Wd × Int), fr 0 = f0 0 ∧ fr 20 = f0 20 ∧ fr 21 = f0 21 ∧ fr 22 = .int .i64 i ∧ (h.bs = srcB t fl X D []) ∧ (h.ts = ts) ∧ (i + m = t.length) ∧ (FillS t D i 1)) (t.length) _ _ ⟨0, [([], 0)], rfl, rfl, rfl, by first | rfl | (simp; done) | (simp [R]; done) | simp [R], by unfold srcB; simp [mG, sK], by first | rfl | (simp; done) | omega, by first | rfl | (simp; done) | omega, FillS.start t⟩ ?_
 rintro Am Af Ah ⟨i, D, A0, A20, A21, A22, hb, hts, hm, hF⟩ Aih
 try simp at A0 A20 A21
 by_cases hi : i < t.length
 ·obtain ⟨e1, e2, e3⟩ := ht.2 i hi
  have hn := sigZ_nth hi
  have hil : i < (sigZ t).length := by omega
  have l2 := bZ_len (nth t i).cells
  repeat' (first | (refine nsf_detN hP hX (by decide +kernel) ?_) | (refine nsf_seq ?_) | (refine nsf_block ?_) | ((first | refine wpc_split _ ?_ ?_ | refine ww_split _ ?_ ?_) <;> intro hc <;> try simp at hc) | (refine wp_drawF (by kernel_rfl) ?_) | refine wk_yldW _ ?_ | refine layOwe _ (by kernel_rfl) ?_ | refine owe ?_ (fun ho => ?_) | (simp (disch := first | assumption | omega | (simp; done) | (simp; omega)) [A0, A20, A21, A22, hsl, hi, hil, hn, eS, -getElem?_pos, gZ, gS]))
  all_goals try (exfalso; omega)
  refine wp_loopE cfg rfl (fun f0 h0 m fr h => ∃ b : Nat, ∃ D2 : List (Wd × Int), fr 0 = f0 0 ∧ fr 3 = f0 3 ∧ fr 20 = f0 20 ∧ fr 21 = f0 21 ∧ fr 22 = f0 22 ∧ fr 4 = .int .i64 b ∧ (h.bs = srcB t fl X D2 []) ∧ (h.ts = ts) ∧ (b + m = (nth t i).cells.length) ∧ (1 ≤ b) ∧ (FillS t D2 i b)) ((nth t i).cells.length - 1) _ _ ⟨1, D, rfl, rfl, rfl, rfl, rfl, by first | rfl | (simp; done) | (simp [R]; done) | simp [R], hb, hts, by first | rfl | (simp; done) | omega, by first | rfl | (simp; done) | omega, hF⟩ ?_
  rintro Bm Bf Bh ⟨b, D2, B0, B3, B20, B21, B22, B4, hb2, hts2, hm2, hb1, hF2⟩ Bih
  try simp [A0, A20, A21, A22] at B0 B3 B20 B21 B22
  by_cases hlt : b < (nth t i).cells.length
  ·have up := updS (h := Bh) (n := X.length + 1) (D := D2) ((bZ (nth t i).cells).drop b) 1048576 (by rw [hb2]; exact srcB_m)
   rw [hb2, srcB_set] at up
   have hF3 := hF2.next hi hb1 hlt
   rw [bZ_drop] at hF3
   repeat' (first | (refine nsf_detN hP hX (by decide +kernel) ?_) | (refine nsf_seq ?_) | (refine nsf_block ?_) | ((first | refine wpc_split _ ?_ ?_ | refine ww_split _ ?_ ?_) <;> intro hc <;> try simp at hc) | (refine wp_drawF (by kernel_rfl) ?_) | refine wk_yldW _ ?_ | refine layOwe _ (by kernel_rfl) ?_ | refine owe ?_ (fun ho => ?_) | (simp (disch := first | assumption | omega | (simp; done) | (simp; omega)) [B0, B3, B20, B21, B22, B4, A0, A20, A21, A22, hb2, hlt, l2, srcB_0, up, -getElem?_pos, gZ, gS]))
   all_goals try (exfalso; omega)
   exact Bih (Bm - 1) _ _ (by omega) ⟨b + 1, putG D2 ((bZ (nth t i).cells).drop b) neverZ, by simp [B0, B3, B20, B21, B22, B4, A0, A20, A21, A22], by simp [B0, B3, B20, B21, B22, B4, A0, A20, A21, A22], by simp [B0, B3, B20, B21, B22, B4, A0, A20, A21, A22], by simp [B0, B3, B20, B21, B22, B4, A0, A20, A21, A22], by simp [B0, B3, B20, B21, B22, B4, A0, A20, A21, A22], by simp [B0, B3, B20, B21, B22, B4, A0, A20, A21, A22], rfl, hts2, by omega, by omega, hF3⟩
  ·repeat' (first | (refine nsf_detN hP hX (by decide +kernel) ?_) | (refine nsf_seq ?_) | (refine nsf_block ?_) | ((first | refine wpc_split _ ?_ ?_ | refine ww_split _ ?_ ?_) <;> intro hc <;> try simp at hc) | (refine wp_drawF (by kernel_rfl) ?_) | refine wk_yldW _ ?_ | refine layOwe _ (by kernel_rfl) ?_ | refine owe ?_ (fun ho => ?_) | (simp (disch := first | assumption | omega | (simp; done) | (simp; omega)) [B0, B3, B20, B21, B22, B4, A0, A20, A21, A22, hb2, hlt, l2, -getElem?_pos, gZ, gS]))
   all_goals try (exfalso; omega)
   exact Aih (Am - 1) _ _ (by omega) ⟨i + 1, D2, by simp [B0, B3, B20, B21, B22, B4, A0, A20, A21, A22], by simp [B0, B3, B20, B21, B22, B4, A0, A20, A21, A22], by simp [B0, B3, B20, B21, B22, B4, A0, A20, A21, A22], by simp [B0, B3, B20, B21, B22, B4, A0, A20, A21, A22], hb2, hts2, by omega, hF2.row (by omega)⟩
 ·obtain rfl : i = t.length := by omega
  have hF3 := hF.all ht
  clear Aih
  repeat' (first | (refine nsf_detN hP hX (by decide +kernel) ?_) | (refine nsf_seq ?_) | (refine nsf_block ?_) | ((first | refine wpc_split _ ?_ ?_ | refine ww_split _ ?_ ?_) <;> intro hc <;> try simp at hc) | (refine wp_drawF (by kernel_rfl) ?_) | refine wk_yldW _ ?_ | refine layOwe _ (by kernel_rfl) ?_ | refine owe ?_ (fun ho => ?_) | (simp (disch := first | assumption | omega | (simp; done) | (simp; omega)) [A0, A20, A21, A22, hsl, -getElem?_pos, gZ, gS]))
  all_goals try (exfalso; omega)
  refine nsf_loopE (c := cfg) rfl (fun f0 h0 m fr h => ∃ E : List (Wd × Int), ∃ Y : List Blk, fr 0 = f0 0 ∧ (h.bs = srcB t fl X E Y) ∧ (h.ts = ts) ∧ (FillI t E) ∧ (m = sumD E)) (sumD D) _ _ ⟨D, [], rfl, hb, hts, hF3, rfl⟩ ?_
  rintro Mm Mf Mh ⟨E, Y, M0, hb3, hts3, hI, hm3⟩ Mih
  try simp [A0, A20, A21, A22] at M0
  have rg : rangeV Tryd.prog Mh 69 (.map (X.length + 1)) = some (.ptr (X.length + Y.length + 2) 0, newB Mh (.iter (some (X.length + 1)) E.length [] E.length)) := by simp [rangeV, hb3, srcB_m, srcB_len]
  repeat' (first | (refine nsf_detN hP hX (by decide +kernel) ?_) | (refine nsf_seq ?_) | (refine nsf_block ?_) | ((first | refine wpc_split _ ?_ ?_ | refine ww_split _ ?_ ?_) <;> intro hc <;> try simp at hc) | (refine wp_drawF (by kernel_rfl) ?_) | refine wk_yldW _ ?_ | refine layOwe _ (by kernel_rfl) ?_ | refine owe ?_ (fun ho => ?_) | (simp (disch := first | assumption | omega | (simp; done) | (simp; omega)) [M0, A0, A20, A21, A22, hb3, srcB_0, rg, -getElem?_pos, gZ, gS]))
  all_goals try (exfalso; omega)
  refine nsf_loopE (c := cfg) rfl (fun f0 h0 m fr h => ∃ seen : List Nat, fr 0 = f0 0 ∧ fr 44 = .ptr (X.length + Y.length + 2) 0 ∧ (h.bs = srcB t fl X E (Y ++ [.iter (some (X.length + 1)) E.length seen E.length])) ∧ (h.ts = ts) ∧ (m = leftG (mG sK 0 E) seen) ∧ (∀ j y, E[j]? = some y → j ∈ seen → ∀ w, KeyZ t w → y.1 = bZ w → ClosedAt t E w t.length)) (leftG (mG sK 0 E) []) _ _ ⟨[], rfl, by first | rfl | (simp; done) | (simp [R]; done) | simp [R], by simp [hb3, srcB_app], hts3, rfl, fun j y _ h => by cases h⟩ ?_
  rintro Nm Nf Nh ⟨seen, N0, N44, hb4, hts4, hm4, hcl⟩ Nih
  try simp [M0, A0, A20, A21, A22] at N0
  repeat' (first | (refine nsf_detN hP hX (by decide +kernel) ?_) | (refine nsf_seq ?_) | (refine nsf_block ?_) | ((first | refine wpc_split _ ?_ ?_ | refine ww_split _ ?_ ?_) <;> intro hc <;> try simp at hc) | (refine wp_drawF (by kernel_rfl) ?_) | refine wk_yldW _ ?_ | refine layOwe _ (by kernel_rfl) ?_ | refine owe ?_ (fun ho => ?_) | (simp (disch := first | assumption | omega | (simp; done) | (simp; omega)) [N0, N44, M0, A0, A20, A21, A22, -getElem?_pos, gZ, gS]))
  refine nsf_next hP hX (j := X.length + Y.length + 2) (m := X.length + 1) (since := E.length) (last := E.length) (clock := E.length) (seen := seen) (es := mG sK 0 E) rfl rfl rfl (by simp [N44]) (by rw [hb4]; exact srcB_it) (by rw [hb4]; exact srcB_m) mG_hold (Nat.le_refl _) (fun hall => ?_) (fun e he hne => ?_)
  ·have hfin := hI.done ht (fun w hw => by
    obtain ⟨j, hj⟩ := List.mem_iff_getElem?.1 ((hI.ks _).2 ⟨w, hw, rfl⟩)
    rw [keysG, List.getElem?_map, Option.map_eq_some_iff] at hj
    obtain ⟨y, hy, hyw⟩ := hj
    have hmem : (sK y.1, V.int .i64 y.2, j) ∈ mG sK 0 E := List.mem_iff_getElem?.2 ⟨j, by rw [mG_get, hy]; simp⟩
    exact hcl j y hy (hall _ hmem) w hw hyw)
   repeat' (first | (refine nsf_detN hP hX (by decide +kernel) ?_) | (refine nsf_seq ?_) | (refine nsf_block ?_) | ((first | refine wpc_split _ ?_ ?_ | refine ww_split _ ?_ ?_) <;> intro hc <;> try simp at hc) | (refine wp_drawF (by kernel_rfl) ?_) | refine wk_yldW _ ?_ | refine layOwe _ (by kernel_rfl) ?_ | refine owe ?_ (fun ho => ?_) | (simp (disch := first | assumption | omega | (simp; done) | (simp; omega)) [N0, N44, M0, A0, A20, A21, A22, hb4, -getElem?_pos, gZ, gS]))
   exact ⟨E, ⟨Y ++ [.iter (some (X.length + 1)) E.length seen E.length], by rw [← hb4, ← hts4]⟩, hfin⟩
  ·obtain ⟨j, y, hj, rfl⟩ := mG_mem he
   obtain ⟨w, hw, hyw⟩ := (hI.ks y.1).1 (List.mem_map_of_mem (List.mem_of_getElem? hj))
   have hy2 : y.2 = getG E (bZ w) := by rw [← hyw]; exact (getG_at hI.nd hj).symm
   have hlt := leftG_lt he hne
   simp only at hne hlt
   obtain ⟨hwd, hwl⟩ := hw.dots ht
   have hen := entry_G (e := sK) (h := ⟨srcB t fl X E (Y ++ [.iter (some (X.length + 1)) E.length (seen ++ [j]) E.length]), Nh.ts⟩) (i := X.length + Y.length + 2) (a := X.length + 1) (since := E.length) (seen := seen) (l := E) (j := j) (y := y) srcB_it srcB_m hj
   rw [hyw, hy2] at hen
   repeat' (first | (refine nsf_detN hP hX (by decide +kernel) ?_) | (refine nsf_seq ?_) | (refine nsf_block ?_) | ((first | refine wpc_split _ ?_ ?_ | refine ww_split _ ?_ ?_) <;> intro hc <;> try simp at hc) | (refine wp_drawF (by kernel_rfl) ?_) | refine wk_yldW _ ?_ | refine layOwe _ (by kernel_rfl) ?_ | refine owe ?_ (fun ho => ?_) | (simp (disch := first | assumption | omega | (simp; done) | (simp; omega)) [N0, N44, M0, A0, A20, A21, A22, hb4, srcB_its, hen, srcB_0, hsl, sK, -getElem?_pos, gZ, gS]))
   all_goals try (exfalso; omega)
   refine wp_loopE cfg rfl (fun f0 h0 m fr h => ∃ k : Nat, fr 0 = f0 0 ∧ fr 5 = f0 5 ∧ fr 6 = f0 6 ∧ fr 44 = f0 44 ∧ fr 54 = f0 54 ∧ fr 55 = .int .i64 k ∧ (h.bs = srcB t fl X E (Y ++ [.iter (some (X.length + 1)) E.length (seen ++ [j]) E.length])) ∧ (h.ts = ts) ∧ (k + m = t.length) ∧ (ClosedAt t E w k)) (t.length) _ _ ⟨0, rfl, rfl, rfl, rfl, rfl, by first | rfl | (simp; done) | (simp [R]; done) | simp [R], by first | rfl | (simp; done) | omega, hts4, by first | rfl | (simp; done) | omega, fun _ k hk => by omega⟩ ?_
   rintro Pm Pf Ph ⟨k, P0, P5, P6, P44, P54, P55, hb5, hts5, hm5, hc5⟩ Pih
   try simp [N0, N44, M0, A0, A20, A21, A22] at P0 P5 P6 P44 P54
   by_cases hk : k < t.length
   ·have cs := Cstep ht hwd hwl hk (h := Ph) (p := 0) (fl := fl) (c := .map (X.length + 1)) (by rw [hb5]; exact srcB_0)
    by_cases hw0 : w = []
    ·have hbw : bZ w = [] := bZ_nil.2 hw0
     rw [hbw] at cs P5
     repeat' (first | (refine nsf_detN hP hX (by decide +kernel) ?_) | (refine nsf_seq ?_) | (refine nsf_block ?_) | ((first | refine wpc_split _ ?_ ?_ | refine ww_split _ ?_ ?_) <;> intro hc <;> try simp at hc) | (refine wp_drawF (by kernel_rfl) ?_) | refine wk_yldW _ ?_ | refine layOwe _ (by kernel_rfl) ?_ | refine owe ?_ (fun ho => ?_) | (simp (disch := first | assumption | omega | (simp; done) | (simp; omega)) [P0, P5, P6, P44, P54, P55, N0, N44, M0, A0, A20, A21, A22, hb5, hk, cs, -getElem?_pos, gZ, gS]))
     all_goals try (exfalso; omega)
     exact Pih (Pm - 1) _ _ (by omega) ⟨k + 1, by simp [P0, P5, P6, P44, P54, P55, N0, N44, M0, A0, A20, A21, A22, hbw], by simp [P0, P5, P6, P44, P54, P55, N0, N44, M0, A0, A20, A21, A22, hbw], by simp [P0, P5, P6, P44, P54, P55, N0, N44, M0, A0, A20, A21, A22, hbw], by simp [P0, P5, P6, P44, P54, P55, N0, N44, M0, A0, A20, A21, A22, hbw], by simp [P0, P5, P6, P44, P54, P55, N0, N44, M0, A0, A20, A21, A22, hbw], by simp [P0, P5, P6, P44, P54, P55, N0, N44, M0, A0, A20, A21, A22, hbw], hb5, hts5, by omega, fun h => absurd hw0 h⟩
    ·have hbw : ¬ bZ w = [] := fun e => hw0 (bZ_nil.1 e)
     have lk := lookS (h := Ph) (n := X.length + 1) (D := E) (bZ (stepZ w (nth t k).cells).1) (by rw [hb5]; exact srcB_m)
     have hnn := stepZ_nn w (nth t k).cells
     cases ho : (stepZ w (nth t k).cells).2.2.2 with
     | false =>
      rw [ho] at cs
      repeat' (first | (refine nsf_detN hP hX (by decide +kernel) ?_) | (refine nsf_seq ?_) | (refine nsf_block ?_) | ((first | refine wpc_split _ ?_ ?_ | refine ww_split _ ?_ ?_) <;> intro hc <;> try simp at hc) | (refine wp_drawF (by kernel_rfl) ?_) | refine wk_yldW _ ?_ | refine layOwe _ (by kernel_rfl) ?_ | refine owe ?_ (fun ho => ?_) | (simp (disch := first | assumption | omega | (simp; done) | (simp; omega)) [P0, P5, P6, P44, P54, P55, N0, N44, M0, A0, A20, A21, A22, hb5, hk, cs, hbw, -getElem?_pos, gZ, gS]))
      all_goals try (exfalso; omega)
      exact Pih (Pm - 1) _ _ (by omega) ⟨k + 1, by simp [P0, P5, P6, P44, P54, P55, N0, N44, M0, A0, A20, A21, A22], by simp [P0, P5, P6, P44, P54, P55, N0, N44, M0, A0, A20, A21, A22], by simp [P0, P5, P6, P44, P54, P55, N0, N44, M0, A0, A20, A21, A22], by simp [P0, P5, P6, P44, P54, P55, N0, N44, M0, A0, A20, A21, A22], by simp [P0, P5, P6, P44, P54, P55, N0, N44, M0, A0, A20, A21, A22], by simp [P0, P5, P6, P44, P54, P55, N0, N44, M0, A0, A20, A21, A22], hb5, hts5, by omega, (fun h k' hk' ho' => by (by_cases e : k' = k; (subst e; rw [ho] at ho'; cases ho'); (exact hc5 h k' (by omega) ho')))⟩
     | true =>
      rw [ho] at cs
      have hsz := (hw.step ht hw0 hk ho)
      have hg0 := hI.nn hsz
      have hg1 := hI.le _ hsz
      have hx4 : (stepZ w (nth t k).cells).2.1 ≤ 4 := by
       have := (ht.2 k hk).2.1
       unfold stepZ
       split
       ·simp
       ·split
        ·simp only; omega
        ·simp
      unfold neverZ at hg1
      by_cases hlow : (stepZ w (nth t k).cells).2.1 + getG E (bZ (stepZ w (nth t k).cells).1) < getG E (bZ w)
      ·obtain ⟨i1, i2⟩ := hI.lower ht hw hw0 hk ho hlow
       have up := updS (h := Ph) (n := X.length + 1) (D := E) (bZ w) ((stepZ w (nth t k).cells).2.1 + getG E (bZ (stepZ w (nth t k).cells).1)) (by rw [hb5]; exact srcB_m)
       rw [hb5, srcB_set] at up
       generalize hst : stepZ w (nth t k).cells = st at *
       repeat' (first | (refine nsf_detN hP hX (by decide +kernel) ?_) | (refine nsf_seq ?_) | (refine nsf_block ?_) | ((first | refine wpc_split _ ?_ ?_ | refine ww_split _ ?_ ?_) <;> intro hc <;> try simp at hc) | (refine wp_drawF (by kernel_rfl) ?_) | refine wk_yldW _ ?_ | refine layOwe _ (by kernel_rfl) ?_ | refine owe ?_ (fun ho => ?_) | (simp (disch := first | assumption | omega | (simp; done) | (simp; omega)) [P0, P5, P6, P44, P54, P55, N0, N44, M0, A0, A20, A21, A22, hb5, srcB_0, hk, cs, hbw, lk, hlow, up, -getElem?_pos, gZ, gS]))
       all_goals try (exfalso; omega)
       exact Mih (sumD (putG E (bZ w) (st.2.1 + getG E (bZ st.1)))) _ _ (by omega) ⟨putG E (bZ w) (st.2.1 + getG E (bZ st.1)), Y ++ [.iter (some (X.length + 1)) E.length (seen ++ [j]) E.length], by simp [P0, P5, P6, P44, P54, P55, N0, N44, M0, A0, A20, A21, A22], rfl, hts5, i1, rfl⟩
      ·have hc6 : ClosedAt t E w (k + 1) := fun h k' hk' ho' => by
        by_cases e : k' = k
        ·subst e; exact hlow
        ·exact hc5 h k' (by omega) ho'
       generalize hst : stepZ w (nth t k).cells = st at *
       repeat' (first | (refine nsf_detN hP hX (by decide +kernel) ?_) | (refine nsf_seq ?_) | (refine nsf_block ?_) | ((first | refine wpc_split _ ?_ ?_ | refine ww_split _ ?_ ?_) <;> intro hc <;> try simp at hc) | (refine wp_drawF (by kernel_rfl) ?_) | refine wk_yldW _ ?_ | refine layOwe _ (by kernel_rfl) ?_ | refine owe ?_ (fun ho => ?_) | (simp (disch := first | assumption | omega | (simp; done) | (simp; omega)) [P0, P5, P6, P44, P54, P55, N0, N44, M0, A0, A20, A21, A22, hb5, srcB_0, hk, cs, hbw, lk, hlow, -getElem?_pos, gZ, gS]))
       all_goals try (exfalso; omega)
       exact Pih (Pm - 1) _ _ (by omega) ⟨k + 1, by simp [P0, P5, P6, P44, P54, P55, N0, N44, M0, A0, A20, A21, A22], by simp [P0, P5, P6, P44, P54, P55, N0, N44, M0, A0, A20, A21, A22], by simp [P0, P5, P6, P44, P54, P55, N0, N44, M0, A0, A20, A21, A22], by simp [P0, P5, P6, P44, P54, P55, N0, N44, M0, A0, A20, A21, A22], by simp [P0, P5, P6, P44, P54, P55, N0, N44, M0, A0, A20, A21, A22], by simp [P0, P5, P6, P44, P54, P55, N0, N44, M0, A0, A20, A21, A22], hb5, hts5, by omega, hc6⟩
   ·obtain rfl : k = t.length := by omega
    have hcl2 : ∀ j' y', E[j']? = some y' → j' ∈ seen ++ [j] → ∀ w', KeyZ t w' → y'.1 = bZ w' → ClosedAt t E w' t.length := fun j' y' h1 h2 w' h3 h4 => by
     rcases List.mem_append.1 h2 with h2 | h2
     ·exact hcl j' y' h1 h2 w' h3 h4
     ·rw [List.mem_singleton] at h2
      subst h2
      rw [hj] at h1
      simp only [Option.some.injEq] at h1
      subst h1
      have : w' = w := bZ_inj (h3.dots ht).1 hwd (by rw [← h4, hyw])
      subst this
      exact hc5
    repeat' (first | (refine nsf_detN hP hX (by decide +kernel) ?_) | (refine nsf_seq ?_) | (refine nsf_block ?_) | ((first | refine wpc_split _ ?_ ?_ | refine ww_split _ ?_ ?_) <;> intro hc <;> try simp at hc) | (refine wp_drawF (by kernel_rfl) ?_) | refine wk_yldW _ ?_ | refine layOwe _ (by kernel_rfl) ?_ | refine owe ?_ (fun ho => ?_) | (simp (disch := first | assumption | omega | (simp; done) | (simp; omega)) [P0, P5, P6, P44, P54, P55, N0, N44, M0, A0, A20, A21, A22, hb5, -getElem?_pos, gZ, gS]))
    all_goals try (exfalso; omega)
    exact Nih (leftG (mG sK 0 E) (seen ++ [j])) _ _ (by omega) ⟨seen ++ [j], by simp [P0, P5, P6, P44, P54, P55, N0, N44, M0, A0, A20, A21, A22], by simp [P0, P5, P6, P44, P54, P55, N0, N44, M0, A0, A20, A21, A22], hb5, hts5, rfl, hcl2⟩
end Go.Ab
