
import Derived.Test.YtippeibeiofmnaaDoorGr6
import Derived.Test.YtippeibeiofmnaaDoorGr2
set_option linter.unusedVariables false
set_option linter.unusedSimpArgs false
set_option linter.unusedSectionVars false
set_option linter.deprecated false
namespace Go.Ab
def lenZ (t : List Sgn) (k : Nat) : Nat := (nth t k).text.length
def cellZ (t : List Sgn) (k : Nat) : Nat := (nth t k).cells.length
def bestZ (t : List Sgn) (s : Wd) (L : List Int) (i : Nat) : Nat → Int × Nat
 | 0 => (neverZ, 0)
 | k + 1 => if preZ (nth t k).text (s.drop i) = true ∧ (cellZ t k : Int) + nth L (i + lenZ t k) < (bestZ t s L i k).1 then ((cellZ t k : Int) + nth L (i + lenZ t k), k) else bestZ t s L i k
def leastL (t : List Sgn) : Wd → List Int
 | [] => [0]
 | b :: u => (bestZ t (b :: u) (0 :: leastL t u) 0 t.length).1 :: leastL t u
theorem leastL_len (t : List Sgn) : ∀ s : Wd, (leastL t s).length = s.length + 1
 | [] => rfl
 | b :: u => by rw [leastL, List.length_cons, leastL_len t u, List.length_cons]
theorem leastL_drop (t : List Sgn) : ∀ (s : Wd) (i : Nat), i ≤ s.length → (leastL t s).drop i = leastL t (s.drop i)
 | s, 0, _ => rfl
 | [], i + 1, h => by simp at h
 | b :: u, i + 1, h => by
  rw [leastL, List.drop_succ_cons, List.drop_succ_cons]
  exact leastL_drop t u i (by simpa using h)
theorem nth_dropZ {α : Type} [Inhabited α] (l : List α) (e j : Nat) : nth (l.drop e) j = nth l (e + j) := nth_drop_add
theorem bestZ_congr {t : List Sgn} {s s2 : Wd} {L L2 : List Int} {i i2 : Nat} (hs : s.drop i = s2.drop i2) : ∀ k, (∀ j, j < k → 0 < lenZ t j) → (∀ d, 0 < d → nth L (i + d) = nth L2 (i2 + d)) → bestZ t s L i k = bestZ t s2 L2 i2 k
 | 0, _, _ => rfl
 | k + 1, h0, h => by
  rw [bestZ, bestZ, bestZ_congr hs k (fun j hj => h0 j (by omega)) h, hs, h _ (h0 k (by omega))]
theorem least_at {t : List Sgn} {s : Wd} (h0 : ∀ j, j < t.length → 0 < lenZ t j) {i : Nat} (hi : i < s.length) : nth (leastL t s) i = (bestZ t s (leastL t s) i t.length).1 := by
 have h1 : nth (leastL t s) i = nth ((leastL t s).drop i) 0 := by rw [nth_dropZ]; rfl
 rw [h1, leastL_drop t s i (by omega)]
 obtain ⟨b, u, hu⟩ : ∃ b u, s.drop i = b :: u := by
  cases h : s.drop i with
  | nil => have := congrArg List.length h; rw [List.length_drop] at this; simp at this; omega
  | cons b u => exact ⟨b, u, rfl⟩
 rw [hu, leastL]
 show (bestZ t (b :: u) (0 :: leastL t u) 0 t.length).1 = _
 congr 1
 refine bestZ_congr (by rw [List.drop_zero, hu]) _ h0 (fun d hd => ?_)
 have h2 : leastL t u = (leastL t s).drop (i + 1) := by
  rw [leastL_drop t s (i + 1) (by omega), ← List.drop_drop, hu]; rfl
 obtain ⟨e, rfl⟩ : ∃ e, d = e + 1 := ⟨d - 1, by omega⟩
 rw [Nat.zero_add]
 show nth (leastL t u) e = _
 rw [h2, nth_dropZ]
 congr 1; omega
theorem least_end (t : List Sgn) (s : Wd) : nth (leastL t s) s.length = 0 := by
 have h1 : nth (leastL t s) s.length = nth ((leastL t s).drop s.length) 0 := by rw [nth_dropZ]; rfl
 rw [h1, leastL_drop t s s.length (Nat.le_refl _), List.drop_length]; rfl
theorem bestZ_le {t : List Sgn} {s : Wd} {L : List Int} {i : Nat} : ∀ k, (bestZ t s L i k).1 ≤ neverZ
 | 0 => Int.le_refl _
 | k + 1 => by
  have := bestZ_le (t := t) (s := s) (L := L) (i := i) k
  rw [bestZ]
  split
  ·rename_i h; simp only; omega
  ·exact this
theorem bestZ_nonneg {t : List Sgn} {s : Wd} {L : List Int} {i : Nat} (h : ∀ d, 0 ≤ nth L d) : ∀ k, 0 ≤ (bestZ t s L i k).1
 | 0 => by show (0 : Int) ≤ neverZ; unfold neverZ; omega
 | k + 1 => by
  have := bestZ_nonneg (t := t) (s := s) (i := i) h k
  rw [bestZ]
  split
  ·have := h (i + lenZ t k); simp only; omega
  ·exact this
theorem least_all (t : List Sgn) : ∀ (s : Wd) (j : Nat), 0 ≤ nth (leastL t s) j ∧ nth (leastL t s) j ≤ neverZ
 | [], 0 => ⟨by show (0 : Int) ≤ 0; omega, by show (0 : Int) ≤ neverZ; unfold neverZ; omega⟩
 | [], j + 1 => ⟨by show (0 : Int) ≤ 0; omega, by show (0 : Int) ≤ neverZ; unfold neverZ; omega⟩
 | b :: u, 0 => by
  have ih := fun d => (least_all t u d).1
  refine ⟨bestZ_nonneg (fun d => ?_) _, bestZ_le _⟩
  cases d with
  | zero => exact Int.le_refl 0
  | succ d => exact ih d
 | b :: u, j + 1 => least_all t u j
theorem bestZ_spec {t : List Sgn} {s : Wd} {L : List Int} {i : Nat} : ∀ k, bestZ t s L i k = (neverZ, 0) ∨ ((bestZ t s L i k).2 < k ∧ preZ (nth t (bestZ t s L i k).2).text (s.drop i) = true ∧
  (bestZ t s L i k).1 = (cellZ t (bestZ t s L i k).2 : Int) + nth L (i + lenZ t (bestZ t s L i k).2) ∧ (bestZ t s L i k).1 < neverZ ∧
  ∀ j, j < (bestZ t s L i k).2 → preZ (nth t j).text (s.drop i) = true → (bestZ t s L i k).1 < (cellZ t j : Int) + nth L (i + lenZ t j))
 | 0 => .inl rfl
 | k + 1 => by
  have hle := bestZ_le (t := t) (s := s) (L := L) (i := i) k
  rw [bestZ]
  split
  ·rename_i h
   refine .inr ⟨by simp, h.1, rfl, by simp only; omega, fun j hj hp => ?_⟩
   simp only at hj ⊢
   have key : ∀ m, ∀ j, j < m → preZ (nth t j).text (s.drop i) = true → (bestZ t s L i m).1 ≤ (cellZ t j : Int) + nth L (i + lenZ t j) := by
    intro m
    induction m with
    | zero => intro j hj; omega
    | succ m ih =>
     intro j hj hp
     rw [bestZ]
     split
     ·rename_i h2
      by_cases e : j = m
      ·subst e; exact Int.le_refl _
      ·have := ih j (by omega) hp; simp only; omega
     ·rename_i h2
      by_cases e : j = m
      ·subst e
       rcases Int.lt_or_le ((cellZ t j : Int) + nth L (i + lenZ t j)) (bestZ t s L i j).1 with h3 | h3
       ·exact absurd ⟨hp, h3⟩ h2
       ·exact h3
      ·exact ih j (by omega) hp
   have := key k j hj hp
   omega
  ·rcases bestZ_spec (t := t) (s := s) (L := L) (i := i) k with h | ⟨h1, h2, h3, h4, h5⟩
   ·exact .inl h
   ·exact .inr ⟨by omega, h2, h3, h4, h5⟩
theorem bestZ_min {t : List Sgn} {s : Wd} {L : List Int} {i : Nat} : ∀ m, ∀ j, j < m → preZ (nth t j).text (s.drop i) = true → (bestZ t s L i m).1 ≤ (cellZ t j : Int) + nth L (i + lenZ t j) := by
 intro m
 induction m with
 | zero => intro j hj; omega
 | succ m ih =>
  intro j hj hp
  rw [bestZ]
  split
  ·rename_i h2
   by_cases e : j = m
   ·subst e; exact Int.le_refl _
   ·have := ih j (by omega) hp; simp only; omega
  ·rename_i h2
   by_cases e : j = m
   ·subst e
    rcases Int.lt_or_le ((cellZ t j : Int) + nth L (i + lenZ t j)) (bestZ t s L i j).1 with h3 | h3
    ·exact absurd ⟨hp, h3⟩ h2
    ·exact h3
   ·exact ih j (by omega) hp
def firstZ (t : List Sgn) (s : Wd) (i : Nat) : Nat := (bestZ t s (leastL t s) i t.length).2
def pathZ (t : List Sgn) (s : Wd) : Nat → Nat → List Nat
 | 0, _ => []
 | f + 1, i => if i < s.length then firstZ t s i :: pathZ t s f (i + lenZ t (firstZ t s i)) else []
def signsZ (t : List Sgn) (s : Wd) : List Int := (pathZ t s s.length 0).map fun (k : Nat) => (k : Int)
def cellsZ (t : List Sgn) (l : List Nat) : List Int := l.flatMap fun k => (nth t k).cells
def encodeZ (t : List Sgn) (s : Wd) : List Int × List Int × Bool × Int :=
 if ¬ checkZ t = 0 then ([], [], false, checkZ t)
 else if ¬ (runesG s).2 = 0 then ([], [], false, (runesG s).2)
 else if neverZ ≤ nth (leastL t s) 0 then ([], [], false, 0)
 else if 4096 < nth (leastL t s) 0 then ([], [], false, 2)
 else (signsZ t s, cellsZ t (pathZ t s s.length 0), true, 0)
theorem preZ_len {p s : Wd} {i : Nat} (h : preZ p (s.drop i) = true) : p.length ≤ s.length - i := by
 unfold preZ at h
 rw [decide_eq_true_eq] at h
 have := h.length_le
 rwa [List.length_drop] at this
theorem path_step {t : List Sgn} {s : Wd} (h0 : ∀ j, j < t.length → 0 < lenZ t j) {i : Nat} (hi : i < s.length) (hn : nth (leastL t s) i < neverZ) :
  firstZ t s i < t.length ∧ i + lenZ t (firstZ t s i) ≤ s.length ∧ 0 < lenZ t (firstZ t s i) ∧ nth (leastL t s) i = (cellZ t (firstZ t s i) : Int) + nth (leastL t s) (i + lenZ t (firstZ t s i)) ∧
  nth (leastL t s) (i + lenZ t (firstZ t s i)) < neverZ ∧ preZ (nth t (firstZ t s i)).text (s.drop i) = true := by
 have ha := least_at (t := t) (s := s) h0 hi
 rcases bestZ_spec (t := t) (s := s) (L := leastL t s) (i := i) t.length with h | ⟨h1, h2, h3, h4, h5⟩
 ·rw [h] at ha; simp only at ha; omega
 ·rw [← ha] at h3
  have hl := preZ_len h2
  refine ⟨h1, ?_, h0 _ h1, h3, ?_, h2⟩
  ·show i + (nth t (bestZ t s (leastL t s) i t.length).2).text.length ≤ s.length
   omega
  ·show nth (leastL t s) (i + lenZ t (bestZ t s (leastL t s) i t.length).2) < neverZ
   omega
end Go.Ab
