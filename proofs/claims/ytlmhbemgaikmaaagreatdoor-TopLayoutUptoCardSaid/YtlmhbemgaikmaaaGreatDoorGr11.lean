/- A part of the proof. -/
import Derived.Test.YtlmhbemgaikmaaaGreatDoorGr6
import Derived.Test.YtlmhbemgaikmaaaGreatDoorGr10
set_option linter.unusedVariables false
set_option linter.unusedSimpArgs false
set_option linter.unusedSectionVars false
set_option linter.deprecated false
namespace Go.Ab
set_option maxRecDepth 10000
def preI (p s : List Int) : Bool := decide (p <+: s)
def neverZ : Int := 1048576
def stepZ (w x : List Int) : List Int × Int × Bool × Bool :=
 if preI x w then (w.drop x.length, 0, false, true)
 else if preI w x then (x.drop w.length, (x.length : Int) - w.length, true, true)
 else ([], 0, false, false)
inductive Ends (t : List Sgn) : List Int → Int → Prop
 | nil : Ends t [] 0
 | step {w : List Int} {k : Nat} {m : Int} : w ≠ [] → k < t.length → (stepZ w (nth t k).cells).2.2.2 = true → Ends t (stepZ w (nth t k).cells).1 m → Ends t w ((stepZ w (nth t k).cells).2.1 + m)
def IsCost (t : List Sgn) (w : List Int) (c : Int) : Prop := c ≤ neverZ ∧ (c = neverZ ∨ Ends t w c) ∧ ∀ n, Ends t w n → c ≤ n
theorem stepZ_nn (w x : List Int) : 0 ≤ (stepZ w x).2.1 := by
 unfold stepZ
 split
 ·simp
 ·split
  ·rename_i h
   have := (of_decide_eq_true h : w <+: x).length_le
   simp only; omega
  ·simp
theorem Ends.nn {t : List Sgn} {w : List Int} {n : Int} (h : Ends t w n) : 0 ≤ n := by
 induction h with
 | nil => omega
 | step _ _ _ _ ih => have := stepZ_nn (‹List Int›) (nth t (‹Nat›)).cells; omega
theorem IsCost.ex (t : List Sgn) (w : List Int) : ∃ c, IsCost t w c := by
 have key : ∀ (n : Nat), (∃ m : Int, Ends t w m ∧ m ≤ n) → ∃ c : Int, Ends t w c ∧ ∀ m, Ends t w m → c ≤ m := by
  intro n
  induction n with
  | zero =>
   rintro ⟨m, hm, hl⟩
   refine ⟨m, hm, fun m' h' => ?_⟩
   have := h'.nn; omega
  | succ n ih =>
   rintro ⟨m, hm, hl⟩
   by_cases h : ∃ m : Int, Ends t w m ∧ m ≤ n
   ·exact ih h
   ·refine ⟨m, hm, fun m' h' => ?_⟩
    rcases Int.lt_or_le m' m with h2 | h2
    ·exact absurd ⟨m', h', by omega⟩ h
    ·exact h2
 by_cases h : ∃ m : Int, Ends t w m ∧ m ≤ neverZ
 ·obtain ⟨c, h1, h2⟩ := key 1048576 h
  refine ⟨c, ?_, .inr h1, h2⟩
  obtain ⟨m, hm, hl⟩ := h
  have := h2 m hm; omega
 ·refine ⟨neverZ, Int.le_refl _, .inl rfl, fun n hn => ?_⟩
  rcases Int.lt_or_le n neverZ with h2 | h2
  ·exact absurd ⟨n, hn, by omega⟩ h
  ·exact h2
noncomputable def costZ (t : List Sgn) (w : List Int) : Int := (IsCost.ex t w).choose
def befZ : List Int → List Int → Bool
 | [], [] => false
 | [], _ :: _ => true
 | _ :: _, [] => false
 | a :: x, b :: y => if a = b then befZ x y else decide (a < b)
def lessZ (p q : List Int × List Int) : Bool := befZ p.1 q.1 || (decide (p.1 = q.1) && befZ p.2 q.2)
def pickZ (b : Option (List Int × List Int)) (p : List Int × List Int) : Option (List Int × List Int) := match b with
 | none => some p
 | some q => if lessZ p q = true then some p else some q
def finF (t : List Sgn) (c : List Int → Int) : Nat → List Int → Bool → List Int × List Int
 | 0, _, _ => ([], [])
 | f + 1, w, a => if w = [] then ([], []) else
  ((List.range t.length).foldl (fun b (k : Nat) =>
   if (stepZ w (nth t k).cells).2.2.2 = true ∧ (stepZ w (nth t k).cells).2.1 + c (stepZ w (nth t k).cells).1 = c w then
    pickZ b (if a then ((finF t c f (stepZ w (nth t k).cells).1 (a != (stepZ w (nth t k).cells).2.2.1)).1, (k : Int) :: (finF t c f (stepZ w (nth t k).cells).1 (a != (stepZ w (nth t k).cells).2.2.1)).2)
     else ((k : Int) :: (finF t c f (stepZ w (nth t k).cells).1 (a != (stepZ w (nth t k).cells).2.2.1)).1, (finF t c f (stepZ w (nth t k).cells).1 (a != (stepZ w (nth t k).cells).2.2.1)).2))
   else b) none).getD ([], [])
def phiZ (c : List Int → Int) (w : List Int) : Nat := (2 * c w).toNat + w.length
def finZ (t : List Sgn) (c : List Int → Int) (w : List Int) (a : Bool) : List Int × List Int := finF t c (phiZ c w + 1) w a
def trySt (t : List Sgn) (c : List Int → Int) (i k : Nat) (b : Int × List Int × List Int) : Int × List Int × List Int :=
 let s := stepZ (nth t i).cells (nth t k).cells
 let n := ((nth t i).cells.length : Int) + s.2.1 + c s.1
 if s.2.2.2 = false ∨ neverZ ≤ n ∨ b.1 < n then b
 else
  let q := finZ t c s.1 (!s.2.2.1)
  let p := ((i : Int) :: q.1, (k : Int) :: q.2)
  if n < b.1 ∨ lessZ p (b.2.1, b.2.2) = true then (n, p.1, p.2) else b
def rowSt (t : List Sgn) (c : List Int → Int) (i m : Nat) (b : Int × List Int × List Int) : Int × List Int × List Int := (List.range m).foldl (fun b d => trySt t c i (i + 1 + d) b) b
def allSt (t : List Sgn) (c : List Int → Int) (m : Nat) : Int × List Int × List Int := (List.range m).foldl (fun b i => rowSt t c i (t.length - (i + 1)) b) (neverZ, [], [])
noncomputable def twiceZ (t : List Sgn) : List Int × List Int × Bool × Int :=
 if ¬ checkZ t = 0 then ([], [], false, checkZ t)
 else ((allSt t (costZ t) t.length).2.1, (allSt t (costZ t) t.length).2.2, decide ((allSt t (costZ t) t.length).1 < neverZ), 0)
def intsOf : List V → List Int
 | .int _ n :: l => n :: intsOf l
 | _ => []
def tabOf : List V → List Sgn
 | .str s :: .row _ _ cs _ _ :: l => ⟨s, intsOf cs⟩ :: tabOf l
 | _ => []
def tabV : V → List Sgn
 | .row _ _ cs _ _ => tabOf cs
 | _ => []
noncomputable def twiceR (v : V) : CRes := .ret (.tuple [R fl0 eI (twiceZ (tabV v)).1, R fl0 eI (twiceZ (tabV v)).2.1, .bool (twiceZ (tabV v)).2.2.1, .int .i64 (twiceZ (tabV v)).2.2.2])
end Go.Ab
namespace Go.Ab
def lenZ (t : List Sgn) (k : Nat) : Nat := (nth t k).text.length
def cellZ (t : List Sgn) (k : Nat) : Nat := (nth t k).cells.length
def bestZ (t : List Sgn) (s : Wd) (L : List Int) (i : Nat) : Nat → Int × Nat
 | 0 => (neverZ, 0)
 | k + 1 => if preZ (nth t k).text (s.drop i) = true ∧ (cellZ t k : Int) + nth L (i + lenZ t k) < (bestZ t s L i k).1 then ((cellZ t k : Int) + nth L (i + lenZ t k), k) else bestZ t s L i k
def leastL (t : List Sgn) : Wd → List Int
 | [] => [0]
 | b :: u => (bestZ t (b :: u) (0 :: leastL t u) 0 t.length).1 :: leastL t u
theorem leastL_drop (t : List Sgn) : ∀ (s : Wd) (i : Nat), i ≤ s.length → (leastL t s).drop i = leastL t (s.drop i)
 | s, 0, _ => rfl
 | [], i + 1, h => by simp at h
 | b :: u, i + 1, h => by
  rw [leastL, List.drop_succ_cons, List.drop_succ_cons]
  exact leastL_drop t u i (by simpa using h)
theorem nth_dropZ {α : Type} [Inhabited α] (l : List α) (e j : Nat) : nth (l.drop e) j = nth l (e + j) := nth_drop_add
theorem bestZ_congr {t : List Sgn} {s s2 : Wd} {L L2 : List Int} {i i2 : Nat} (hs : s.drop i = s2.drop i2) : ∀ k, (∀ j, j < k → 0 < lenZ t j) → (∀ d, 0 < d → nth L (i + d) = nth L2 (i2 + d)) → bestZ t s L i k = bestZ t s2 L2 i2 k
 | 0, _, _ => rfl
 | k + 1, h0, h => by
  rw [bestZ, bestZ, bestZ_congr hs k (fun j hj => h0 j (by omega)) h, hs, h _ (h0 k (by omega))]
theorem least_at {t : List Sgn} {s : Wd} (h0 : ∀ j, j < t.length → 0 < lenZ t j) {i : Nat} (hi : i < s.length) : nth (leastL t s) i = (bestZ t s (leastL t s) i t.length).1 := by
 have h1 : nth (leastL t s) i = nth ((leastL t s).drop i) 0 := by rw [nth_dropZ]; rfl
 rw [h1, leastL_drop t s i (by omega)]
 obtain ⟨b, u, hu⟩ : ∃ b u, s.drop i = b :: u := by
  cases h : s.drop i with
  | nil => have := congrArg List.length h; rw [List.length_drop] at this; simp at this; omega
  | cons b u => exact ⟨b, u, rfl⟩
 rw [hu, leastL]
 show (bestZ t (b :: u) (0 :: leastL t u) 0 t.length).1 = _
 congr 1
 refine bestZ_congr (by rw [List.drop_zero, hu]) _ h0 (fun d hd => ?_)
 have h2 : leastL t u = (leastL t s).drop (i + 1) := by
  rw [leastL_drop t s (i + 1) (by omega), ← List.drop_drop, hu]; rfl
 obtain ⟨e, rfl⟩ : ∃ e, d = e + 1 := ⟨d - 1, by omega⟩
 rw [Nat.zero_add]
 show nth (leastL t u) e = _
 rw [h2, nth_dropZ]
 congr 1; omega
theorem least_end (t : List Sgn) (s : Wd) : nth (leastL t s) s.length = 0 := by
 have h1 : nth (leastL t s) s.length = nth ((leastL t s).drop s.length) 0 := by rw [nth_dropZ]; rfl
 rw [h1, leastL_drop t s s.length (Nat.le_refl _), List.drop_length]; rfl
theorem bestZ_le {t : List Sgn} {s : Wd} {L : List Int} {i : Nat} : ∀ k, (bestZ t s L i k).1 ≤ neverZ
 | 0 => Int.le_refl _
 | k + 1 => by
  have := bestZ_le (t := t) (s := s) (L := L) (i := i) k
  rw [bestZ]
  split
  ·rename_i h; simp only; omega
  ·exact this
theorem bestZ_nonneg {t : List Sgn} {s : Wd} {L : List Int} {i : Nat} (h : ∀ d, 0 ≤ nth L d) : ∀ k, 0 ≤ (bestZ t s L i k).1
 | 0 => by show (0 : Int) ≤ neverZ; unfold neverZ; omega
 | k + 1 => by
  have := bestZ_nonneg (t := t) (s := s) (i := i) h k
  rw [bestZ]
  split
  ·have := h (i + lenZ t k); simp only; omega
  ·exact this
theorem least_all (t : List Sgn) : ∀ (s : Wd) (j : Nat), 0 ≤ nth (leastL t s) j ∧ nth (leastL t s) j ≤ neverZ
 | [], 0 => ⟨by show (0 : Int) ≤ 0; omega, by show (0 : Int) ≤ neverZ; unfold neverZ; omega⟩
 | [], j + 1 => ⟨by show (0 : Int) ≤ 0; omega, by show (0 : Int) ≤ neverZ; unfold neverZ; omega⟩
 | b :: u, 0 => by
  have ih := fun d => (least_all t u d).1
  refine ⟨bestZ_nonneg (fun d => ?_) _, bestZ_le _⟩
  cases d with
  | zero => exact Int.le_refl 0
  | succ d => exact ih d
 | b :: u, j + 1 => least_all t u j
theorem bestZ_spec {t : List Sgn} {s : Wd} {L : List Int} {i : Nat} : ∀ k, bestZ t s L i k = (neverZ, 0) ∨ ((bestZ t s L i k).2 < k ∧ preZ (nth t (bestZ t s L i k).2).text (s.drop i) = true ∧
  (bestZ t s L i k).1 = (cellZ t (bestZ t s L i k).2 : Int) + nth L (i + lenZ t (bestZ t s L i k).2) ∧ (bestZ t s L i k).1 < neverZ ∧
  ∀ j, j < (bestZ t s L i k).2 → preZ (nth t j).text (s.drop i) = true → (bestZ t s L i k).1 < (cellZ t j : Int) + nth L (i + lenZ t j))
 | 0 => .inl rfl
 | k + 1 => by
  have hle := bestZ_le (t := t) (s := s) (L := L) (i := i) k
  rw [bestZ]
  split
  ·rename_i h
   refine .inr ⟨by simp, h.1, rfl, by simp only; omega, fun j hj hp => ?_⟩
   simp only at hj ⊢
   have key : ∀ m, ∀ j, j < m → preZ (nth t j).text (s.drop i) = true → (bestZ t s L i m).1 ≤ (cellZ t j : Int) + nth L (i + lenZ t j) := by
    intro m
    induction m with
    | zero => intro j hj; omega
    | succ m ih =>
     intro j hj hp
     rw [bestZ]
     split
     ·rename_i h2
      by_cases e : j = m
      ·subst e; exact Int.le_refl _
      ·have := ih j (by omega) hp; simp only; omega
     ·rename_i h2
      by_cases e : j = m
      ·subst e
       rcases Int.lt_or_le ((cellZ t j : Int) + nth L (i + lenZ t j)) (bestZ t s L i j).1 with h3 | h3
       ·exact absurd ⟨hp, h3⟩ h2
       ·exact h3
      ·exact ih j (by omega) hp
   have := key k j hj hp
   omega
  ·rcases bestZ_spec (t := t) (s := s) (L := L) (i := i) k with h | ⟨h1, h2, h3, h4, h5⟩
   ·exact .inl h
   ·exact .inr ⟨by omega, h2, h3, h4, h5⟩
theorem bestZ_min {t : List Sgn} {s : Wd} {L : List Int} {i : Nat} : ∀ m, ∀ j, j < m → preZ (nth t j).text (s.drop i) = true → (bestZ t s L i m).1 ≤ (cellZ t j : Int) + nth L (i + lenZ t j) := by
 intro m
 induction m with
 | zero => intro j hj; omega
 | succ m ih =>
  intro j hj hp
  rw [bestZ]
  split
  ·rename_i h2
   by_cases e : j = m
   ·subst e; exact Int.le_refl _
   ·have := ih j (by omega) hp; simp only; omega
  ·rename_i h2
   by_cases e : j = m
   ·subst e
    rcases Int.lt_or_le ((cellZ t j : Int) + nth L (i + lenZ t j)) (bestZ t s L i j).1 with h3 | h3
    ·exact absurd ⟨hp, h3⟩ h2
    ·exact h3
   ·exact ih j (by omega) hp
def firstZ (t : List Sgn) (s : Wd) (i : Nat) : Nat := (bestZ t s (leastL t s) i t.length).2
def pathZ (t : List Sgn) (s : Wd) : Nat → Nat → List Nat
 | 0, _ => []
 | f + 1, i => if i < s.length then firstZ t s i :: pathZ t s f (i + lenZ t (firstZ t s i)) else []
def signsZ (t : List Sgn) (s : Wd) : List Int := (pathZ t s s.length 0).map fun (k : Nat) => (k : Int)
def cellsZ (t : List Sgn) (l : List Nat) : List Int := l.flatMap fun k => (nth t k).cells
def encodeZ (t : List Sgn) (s : Wd) : List Int × List Int × Bool × Int :=
 if ¬ checkZ t = 0 then ([], [], false, checkZ t)
 else if ¬ (runesG s).2 = 0 then ([], [], false, (runesG s).2)
 else if neverZ ≤ nth (leastL t s) 0 then ([], [], false, 0)
 else if 4096 < nth (leastL t s) 0 then ([], [], false, 2)
 else (signsZ t s, cellsZ t (pathZ t s s.length 0), true, 0)
theorem preZ_len {p s : Wd} {i : Nat} (h : preZ p (s.drop i) = true) : p.length ≤ s.length - i := by
 unfold preZ at h
 rw [decide_eq_true_eq] at h
 have := h.length_le
 rwa [List.length_drop] at this
theorem path_step {t : List Sgn} {s : Wd} (h0 : ∀ j, j < t.length → 0 < lenZ t j) {i : Nat} (hi : i < s.length) (hn : nth (leastL t s) i < neverZ) :
  firstZ t s i < t.length ∧ i + lenZ t (firstZ t s i) ≤ s.length ∧ 0 < lenZ t (firstZ t s i) ∧ nth (leastL t s) i = (cellZ t (firstZ t s i) : Int) + nth (leastL t s) (i + lenZ t (firstZ t s i)) ∧
  nth (leastL t s) (i + lenZ t (firstZ t s i)) < neverZ ∧ preZ (nth t (firstZ t s i)).text (s.drop i) = true := by
 have ha := least_at (t := t) (s := s) h0 hi
 rcases bestZ_spec (t := t) (s := s) (L := leastL t s) (i := i) t.length with h | ⟨h1, h2, h3, h4, h5⟩
 ·rw [h] at ha; simp only at ha; omega
 ·rw [← ha] at h3
  have hl := preZ_len h2
  refine ⟨h1, ?_, h0 _ h1, h3, ?_, h2⟩
  ·show i + (nth t (bestZ t s (leastL t s) i t.length).2).text.length ≤ s.length
   omega
  ·show nth (leastL t s) (i + lenZ t (bestZ t s (leastL t s) i t.length).2) < neverZ
   omega
end Go.Ab
