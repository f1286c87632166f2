/- A part of the proof. -/
import Derived.Test.YtigmnglnedcfpaaGreatDoorU
import Derived.Test.YtigmnglnedcfpaaGreatDoorAbsD
import Derived.Test.YtigmnglnedcfpaaGreatDoorGr3
import Derived.Test.YtigmnglnedcfpaaGreatDoorGr1
set_option linter.unusedVariables false
set_option linter.unusedSimpArgs false
set_option linter.unusedSectionVars false
set_option linter.deprecated false
namespace Go.Ab
abbrev Wd := List UInt8
def cst (x y : Wd) : Int := if x = y then 0 else 1
theorem cst_bound (x y : Wd) : 0 ≤ cst x y ∧ cst x y ≤ 1 := by unfold cst; split <;> omega
theorem cst_self (x : Wd) : cst x x = 0 := by unfold cst; rw [if_pos rfl]
theorem cst_comm (x y : Wd) : cst x y = cst y x := by
 unfold cst
 by_cases h : x = y
 ·rw [if_pos h, if_pos h.symm]
 ·rw [if_neg h, if_neg (fun e => h e.symm)]
theorem cst_tri (x y z : Wd) : cst x z ≤ cst x y + cst y z := by
 unfold cst
 by_cases h1 : x = y
 ·subst h1; simp
 ·have : (0 : Int) ≤ if y = z then 0 else 1 := by split <;> omega
  rw [if_neg h1]
  split <;> omega
def lev : List Wd → List Wd → Int
 | [], [] => 0
 | _ :: a, [] => 1 + lev a []
 | [], _ :: b => 1 + lev [] b
 | x :: a, y :: b => min (min (cst x y + lev a b) (1 + lev a (y :: b))) (1 + lev (x :: a) b)
termination_by a b => a.length + b.length
theorem lev_nn : lev [] [] = 0 := by rw [lev]
theorem lev_cn (x : Wd) (a : List Wd) : lev (x :: a) [] = 1 + lev a [] := by rw [lev]
theorem lev_nc (y : Wd) (b : List Wd) : lev [] (y :: b) = 1 + lev [] b := by rw [lev]
theorem lev_cc (x y : Wd) (a b : List Wd) : lev (x :: a) (y :: b) = min (min (cst x y + lev a b) (1 + lev a (y :: b))) (1 + lev (x :: a) b) := by rw [lev]
inductive Al : List Wd → List Wd → Int → Prop
 | nil : Al [] [] 0
 | both {a b : List Wd} {n : Int} (x y : Wd) (h : Al a b n) : Al (x :: a) (y :: b) (cst x y + n)
 | less {a b : List Wd} {n : Int} (x : Wd) (h : Al a b n) : Al (x :: a) b (1 + n)
 | more {a b : List Wd} {n : Int} (y : Wd) (h : Al a b n) : Al a (y :: b) (1 + n)
theorem lev_Al (a b : List Wd) : Al a b (lev a b) := by
 induction a, b using lev.induct with
 | case1 => rw [lev_nn]; exact .nil
 | case2 x a ih => rw [lev_cn]; exact .less x ih
 | case3 y b ih => rw [lev_nc]; exact .more y ih
 | case4 x a y b ih1 ih2 ih3 =>
  rw [lev_cc]
  rcases Int.le_total (min (cst x y + lev a b) (1 + lev a (y :: b))) (1 + lev (x :: a) b) with h | h
  ·rw [Int.min_eq_left h]
   rcases Int.le_total (cst x y + lev a b) (1 + lev a (y :: b)) with h2 | h2
   ·rw [Int.min_eq_left h2]; exact .both x y ih1
   ·rw [Int.min_eq_right h2]; exact .less x ih2
  ·rw [Int.min_eq_right h]; exact .more y ih3
theorem lev_less (x : Wd) (a b : List Wd) : lev (x :: a) b ≤ 1 + lev a b := by
 cases b with
 | nil => rw [lev_cn]; omega
 | cons y b => rw [lev_cc]; omega
theorem lev_more (y : Wd) (a b : List Wd) : lev a (y :: b) ≤ 1 + lev a b := by
 cases a with
 | nil => rw [lev_nc]; omega
 | cons x a => rw [lev_cc]; omega
theorem lev_both (x y : Wd) (a b : List Wd) : lev (x :: a) (y :: b) ≤ cst x y + lev a b := by rw [lev_cc]; omega
theorem lev_le {a b : List Wd} {n : Int} (h : Al a b n) : lev a b ≤ n := by
 induction h with
 | nil => rw [lev_nn]; omega
 | @both a b n x y _ ih => have := lev_both x y a b; omega
 | @less a b n x _ ih => have := lev_less x a b; omega
 | @more a b n y _ ih => have := lev_more y a b; omega
theorem Al.swap {a b : List Wd} {n : Int} (h : Al a b n) : Al b a n := by
 induction h with
 | nil => exact .nil
 | both x y _ ih => rw [cst_comm]; exact .both y x ih
 | less x _ ih => exact .more x ih
 | more y _ ih => exact .less y ih
theorem Al.app {a b c d : List Wd} {n m : Int} (h : Al a b n) (k : Al c d m) : Al (a ++ c) (b ++ d) (n + m) := by
 induction h with
 | nil => simpa using k
 | both x y _ ih => rw [Int.add_assoc]; exact .both x y ih
 | less x _ ih => rw [Int.add_assoc]; exact .less x ih
 | more y _ ih => rw [Int.add_assoc]; exact .more y ih
theorem Al.cast {a b : List Wd} {n m : Int} (h : Al a b n) (e : n = m) : Al a b m := e ▸ h
theorem Al.rev {a b : List Wd} {n : Int} (h : Al a b n) : Al a.reverse b.reverse n := by
 induction h with
 | nil => exact .nil
 | both x y _ ih => rw [List.reverse_cons, List.reverse_cons]; exact (ih.app (.both x y .nil)).cast (by omega)
 | less x _ ih => rw [List.reverse_cons]; have := ih.app (.less x .nil); rw [List.append_nil] at this; exact this.cast (by omega)
 | more y _ ih => rw [List.reverse_cons]; have := ih.app (.more y .nil); rw [List.append_nil] at this; exact this.cast (by omega)
theorem Al.nonneg {a b : List Wd} {n : Int} (h : Al a b n) : 0 ≤ n := by
 induction h with
 | nil => omega
 | both x y _ ih => have := cst_bound x y; omega
 | less x _ ih => omega
 | more y _ ih => omega
theorem lev_nonneg (a b : List Wd) : 0 ≤ lev a b := (lev_Al a b).nonneg
theorem lev_comm (a b : List Wd) : lev a b = lev b a := by
 have h1 := lev_le (lev_Al a b).swap
 have h2 := lev_le (lev_Al b a).swap
 omega
theorem lev_rev (a b : List Wd) : lev a.reverse b.reverse = lev a b := by
 have h1 := lev_le (lev_Al a b).rev
 have h2 := lev_le (lev_Al a.reverse b.reverse).rev
 rw [List.reverse_reverse, List.reverse_reverse] at h2
 omega
theorem lev_diff {a b : List Wd} {n : Int} (h : Al a b n) : (a.length : Int) - b.length ≤ n ∧ (b.length : Int) - a.length ≤ n := by
 induction h with
 | nil => simp
 | both x y _ ih => have := cst_bound x y; simp at ih ⊢; omega
 | less x _ ih => simp at ih ⊢; omega
 | more y _ ih => simp at ih ⊢; omega
theorem lev_max (a b : List Wd) : lev a b ≤ max (a.length : Int) (b.length : Int) := by
 induction a, b using lev.induct with
 | case1 => rw [lev_nn]; simp
 | case2 x a ih => rw [lev_cn]; simp at ih ⊢; omega
 | case3 y b ih => rw [lev_nc]; simp at ih ⊢; omega
 | case4 x a y b ih1 ih2 ih3 =>
  have := lev_both x y a b
  have := cst_bound x y
  simp at ih1 ⊢; omega
theorem lev_self (a : List Wd) : lev a a = 0 := by
 induction a with
 | nil => exact lev_nn
 | cons x a ih =>
  have := lev_both x x a a
  have h2 := lev_nonneg (x :: a) (x :: a)
  rw [cst_self, ih] at this; omega
theorem lev_zero {a b : List Wd} (h : lev a b = 0) : a = b := by
 have key : ∀ {a b : List Wd} {n : Int}, Al a b n → n = 0 → a = b := by
  intro a b n h
  induction h with
  | nil => intro _; rfl
  | both x y h ih =>
   intro e
   have := cst_bound x y
   have := h.nonneg
   have hx : cst x y = 0 := by omega
   have : x = y := by
    unfold cst at hx
    split at hx
    ·assumption
    ·omega
   rw [this, ih (by omega)]
  | less x h ih => intro e; have := h.nonneg; omega
  | more y h ih => intro e; have := h.nonneg; omega
 exact key (lev_Al a b) h
theorem Al.tri {b c : List Wd} {m : Int} (k : Al b c m) : ∀ {a : List Wd} {n : Int}, Al a b n → ∃ p, Al a c p ∧ p ≤ n + m := by
 induction k with
 | nil => intro a n h; exact ⟨n, h, by omega⟩
 | more y k ih =>
  intro a n h
  obtain ⟨p, h1, h2⟩ := ih h
  exact ⟨1 + p, .more y h1, by omega⟩
 | @both b c m y z k ih =>
  intro a n h
  generalize hb : y :: b = yb at h
  induction h with
  | nil => cases hb
  | @both a b' n x y' h _ =>
   cases hb
   obtain ⟨p, h1, h2⟩ := ih h
   exact ⟨cst x z + p, .both x z h1, by have := cst_tri x y z; omega⟩
  | less x h ih2 =>
   obtain ⟨p, h1, h2⟩ := ih2 hb
   exact ⟨1 + p, .less x h1, by omega⟩
  | more y' h _ =>
   cases hb
   obtain ⟨p, h1, h2⟩ := ih h
   exact ⟨1 + p, .more z h1, by have := cst_bound y z; omega⟩
 | @less b c m y k ih =>
  intro a n h
  generalize hb : y :: b = yb at h
  induction h with
  | nil => cases hb
  | @both a b' n x y' h _ =>
   cases hb
   obtain ⟨p, h1, h2⟩ := ih h
   exact ⟨1 + p, .less x h1, by have := cst_bound x y; omega⟩
  | less x h ih2 =>
   obtain ⟨p, h1, h2⟩ := ih2 hb
   exact ⟨1 + p, .less x h1, by omega⟩
  | more y' h _ =>
   cases hb
   obtain ⟨p, h1, h2⟩ := ih h
   exact ⟨p, h1, by omega⟩
theorem lev_tri (a b c : List Wd) : lev a c ≤ lev a b + lev b c := by
 obtain ⟨p, h1, h2⟩ := (lev_Al b c).tri (lev_Al a b)
 have := lev_le h1
 omega
theorem lev_one_a (x : Wd) (a b : List Wd) : lev a b ≤ 1 + lev (x :: a) b := by
 have h1 := lev_tri a (x :: a) b
 have h2 := lev_more x a a
 rw [lev_self] at h2
 omega
theorem lev_cons (x : Wd) (a b : List Wd) : lev (x :: a) (x :: b) = lev a b := by
 have h1 := lev_both x x a b
 rw [cst_self] at h1
 have h2 := lev_one_a x a b
 have h3 := lev_one_a x b a
 rw [lev_comm b a, lev_comm (x :: b) a] at h3
 rw [lev_cc, cst_self]; omega
theorem lev_pre (p a b : List Wd) : lev (p ++ a) (p ++ b) = lev a b := by
 induction p with
 | nil => rfl
 | cons x p ih => rw [List.cons_append, List.cons_append, lev_cons, ih]
theorem lev_suf (s a b : List Wd) : lev (a ++ s) (b ++ s) = lev a b := by
 rw [← lev_rev, List.reverse_append, List.reverse_append, lev_pre, lev_rev]
theorem lev_last (x : Wd) (a b : List Wd) : lev (a ++ [x]) b ≤ lev a b + 1 ∧ lev a b ≤ lev (a ++ [x]) b + 1 := by
 have h1 := lev_less x a.reverse b.reverse
 have h2 := lev_one_a x a.reverse b.reverse
 have e : lev (x :: a.reverse) b.reverse = lev (a ++ [x]) b := by
  have := lev_rev (a ++ [x]) b
  rw [List.reverse_append] at this
  exact this
 rw [e, lev_rev] at h1 h2
 omega
def stepL (s : Int) : List Wd → List Wd → Option (List Wd × List Wd × Int)
 | x :: a, y :: b => if s = 1 then (if x = y then some (a, b, 0) else none) else if s = 2 then (if x = y then none else some (a, b, 1)) else if s = 3 then some (a, y :: b, 1) else if s = 4 then some (x :: a, b, 1) else none
 | x :: a, [] => if s = 3 then some (a, [], 1) else none
 | [], y :: b => if s = 4 then some ([], b, 1) else none
 | [], [] => none
def pathC : List Int → List Wd → List Wd → Option Int
 | [], a, b => if a = [] ∧ b = [] then some 0 else none
 | s :: r, a, b => match stepL s a b with
  | some (a', b', c) => (pathC r a' b').map (c + ·)
  | none => none
theorem stepL_Al {s : Int} {a b a' b' : List Wd} {c n : Int} (h : stepL s a b = some (a', b', c)) (k : Al a' b' n) : Al a b (c + n) := by
 cases a with
 | nil => cases b with
  | nil => cases h
  | cons y b =>
   simp only [stepL] at h
   split at h
   ·cases h; exact .more y k
   ·cases h
 | cons x a => cases b with
  | nil =>
   simp only [stepL] at h
   split at h
   ·cases h; exact .less x k
   ·cases h
  | cons y b =>
   simp only [stepL] at h
   split at h
   ·split at h
    ·rename_i e; cases h; subst e; exact (Al.both x x k).cast (by rw [cst_self])
    ·cases h
   ·split at h
    ·split at h
     ·cases h
     ·rename_i e; cases h; exact (Al.both x y k).cast (by unfold cst; rw [if_neg e])
    ·split at h
     ·cases h; exact .less x k
     ·split at h
      ·cases h; exact .more y k
      ·cases h
theorem pathC_Al : ∀ {l : List Int} {a b : List Wd} {n : Int}, pathC l a b = some n → Al a b n
 | [], a, b, n, h => by
  simp only [pathC] at h
  split at h
  ·rename_i e; obtain ⟨rfl, rfl⟩ := e; cases h; exact .nil
  ·cases h
 | s :: r, a, b, n, h => by
  simp only [pathC] at h
  cases hs : stepL s a b with
  | none => rw [hs] at h; cases h
  | some x =>
   obtain ⟨a', b', c⟩ := x
   rw [hs] at h
   simp only [Option.map_eq_some_iff] at h
   obtain ⟨m, h1, rfl⟩ := h
   exact stepL_Al hs (pathC_Al h1)
def alignF : List Wd → List Wd → List Int
 | [], [] => []
 | _ :: a, [] => 3 :: alignF a []
 | [], _ :: b => 4 :: alignF [] b
 | x :: a, y :: b => if x = y ∧ lev (x :: a) (y :: b) = lev a b then 1 :: alignF a b
  else if ¬ x = y ∧ lev (x :: a) (y :: b) = 1 + lev a b then 2 :: alignF a b
  else if lev (x :: a) (y :: b) = 1 + lev a (y :: b) then 3 :: alignF a (y :: b)
  else 4 :: alignF (x :: a) b
termination_by a b => a.length + b.length
theorem alF_nn : alignF [] [] = [] := by rw [alignF]
theorem alF_cn (x : Wd) (a : List Wd) : alignF (x :: a) [] = 3 :: alignF a [] := by rw [alignF]
theorem alF_nc (y : Wd) (b : List Wd) : alignF [] (y :: b) = 4 :: alignF [] b := by rw [alignF]
theorem alF_cc (x y : Wd) (a b : List Wd) : alignF (x :: a) (y :: b) = if x = y ∧ lev (x :: a) (y :: b) = lev a b then 1 :: alignF a b
  else if ¬ x = y ∧ lev (x :: a) (y :: b) = 1 + lev a b then 2 :: alignF a b
  else if lev (x :: a) (y :: b) = 1 + lev a (y :: b) then 3 :: alignF a (y :: b)
  else 4 :: alignF (x :: a) b := by rw [alignF]
theorem alF_ind {P : List Wd → List Wd → Prop} (h0 : P [] []) (h1 : ∀ x a, P a [] → P (x :: a) []) (h2 : ∀ y b, P [] b → P [] (y :: b)) (h3 : ∀ x a y b, P a b → P a (y :: b) → P (x :: a) b → P (x :: a) (y :: b)) (a b : List Wd) : P a b := by
 induction a, b using lev.induct with
 | case1 => exact h0
 | case2 x a ih => exact h1 x a ih
 | case3 y b ih => exact h2 y b ih
 | case4 x a y b ih1 ih2 ih3 => exact h3 x a y b ih1 ih2 ih3
theorem lev_cases (x y : Wd) (a b : List Wd) : (x = y ∧ lev (x :: a) (y :: b) = lev a b) ∨ (¬ x = y ∧ lev (x :: a) (y :: b) = 1 + lev a b) ∨ lev (x :: a) (y :: b) = 1 + lev a (y :: b) ∨ lev (x :: a) (y :: b) = 1 + lev (x :: a) b := by
 have h := lev_cc x y a b
 by_cases e : x = y
 ·subst e
  exact .inl ⟨rfl, lev_cons x a b⟩
 ·have hc : cst x y = 1 := by unfold cst; rw [if_neg e]
  rw [hc] at h
  have : lev (x :: a) (y :: b) = 1 + lev a b ∨ lev (x :: a) (y :: b) = 1 + lev a (y :: b) ∨ lev (x :: a) (y :: b) = 1 + lev (x :: a) b := by omega
  rcases this with h | h | h
  ·exact .inr (.inl ⟨e, h⟩)
  ·exact .inr (.inr (.inl h))
  ·exact .inr (.inr (.inr h))
theorem alF_path (a b : List Wd) : pathC (alignF a b) a b = some (lev a b) := by
 refine alF_ind (P := fun a b => pathC (alignF a b) a b = some (lev a b)) ?_ ?_ ?_ ?_ a b
 ·rw [alF_nn, lev_nn]; rfl
 ·intro x a ih; rw [alF_cn, lev_cn]; simp [pathC, stepL, ih]
 ·intro y b ih; rw [alF_nc, lev_nc]; simp [pathC, stepL, ih]
 ·intro x a y b i1 i2 i3
  rw [alF_cc]
  have hl := lev_cases x y a b
  by_cases c1 : x = y ∧ lev (x :: a) (y :: b) = lev a b
  ·rw [if_pos c1]; simp [pathC, stepL, i1, c1.1]
   have := c1.2; rw [c1.1] at this; omega
  ·rw [if_neg c1]
   by_cases c2 : ¬ x = y ∧ lev (x :: a) (y :: b) = 1 + lev a b
   ·rw [if_pos c2]; simp [pathC, stepL, i1, c2.1]
    omega
   ·rw [if_neg c2]
    by_cases c3 : lev (x :: a) (y :: b) = 1 + lev a (y :: b)
    ·rw [if_pos c3]; simp [pathC, stepL, i2]; omega
    ·rw [if_neg c3]; simp [pathC, stepL, i3]
     rcases hl with h | h | h | h
     ·exact absurd h c1
     ·exact absurd h c2
     ·exact absurd h c3
     ·omega
def beforeL : List Int → List Int → Bool
 | [], [] => false
 | [], _ :: _ => true
 | _ :: _, [] => false
 | x :: a, y :: b => if x = y then beforeL a b else decide (x < y)
theorem pathC_le {l : List Int} {a b : List Wd} {n : Int} (h : pathC l a b = some n) : lev a b ≤ n := lev_le (pathC_Al h)
theorem alF_first (a b : List Wd) : ∀ l : List Int, pathC l a b = some (lev a b) → beforeL l (alignF a b) = false := by
 refine alF_ind (P := fun a b => ∀ l : List Int, pathC l a b = some (lev a b) → beforeL l (alignF a b) = false) ?_ ?_ ?_ ?_ a b
 ·intro l _; rw [alF_nn]; cases l <;> rfl
 ·intro x a ih l h
  rw [alF_cn]
  cases l with
  | nil => simp [pathC] at h
  | cons s r =>
   simp only [pathC, stepL] at h
   split at h
   ·rename_i hs
    split at hs
    ·cases hs
     rename_i e
     rw [lev_cn] at h
     simp only [Option.map_eq_some_iff] at h
     obtain ⟨m, h1, h2⟩ := h
     have : m = lev a [] := by omega
     subst this
     simp [beforeL, e, ih r h1]
    ·cases hs
   ·cases h
 ·intro y b ih l h
  rw [alF_nc]
  cases l with
  | nil => simp [pathC] at h
  | cons s r =>
   simp only [pathC, stepL] at h
   split at h
   ·rename_i hs
    split at hs
    ·cases hs
     rename_i e
     rw [lev_nc] at h
     simp only [Option.map_eq_some_iff] at h
     obtain ⟨m, h1, h2⟩ := h
     have : m = lev [] b := by omega
     subst this
     simp [beforeL, e, ih r h1]
    ·cases hs
   ·cases h
 ·intro x a y b i1 i2 i3 l h
  cases l with
  | nil => simp [pathC] at h
  | cons s r =>
   have hl := lev_cases x y a b
   have u1 : lev (x :: a) (y :: b) ≤ 1 + lev a (y :: b) := lev_less x a (y :: b)
   have u2 : lev (x :: a) (y :: b) ≤ 1 + lev (x :: a) b := lev_more y (x :: a) b
   have u3 := lev_both x y a b
   have key : (s = 1 ∧ x = y ∧ lev (x :: a) (y :: b) = lev a b ∧ pathC r a b = some (lev a b)) ∨
     (s = 2 ∧ ¬ x = y ∧ lev (x :: a) (y :: b) = 1 + lev a b ∧ pathC r a b = some (lev a b)) ∨
     (s = 3 ∧ lev (x :: a) (y :: b) = 1 + lev a (y :: b) ∧ pathC r a (y :: b) = some (lev a (y :: b))) ∨
     (s = 4 ∧ lev (x :: a) (y :: b) = 1 + lev (x :: a) b ∧ pathC r (x :: a) b = some (lev (x :: a) b)) := by
    simp only [pathC, stepL] at h
    by_cases s1 : s = 1
    ·subst s1
     by_cases e : x = y
     ·subst e
      simp only [if_true, Option.map_eq_some_iff] at h
      obtain ⟨m, h1, h2⟩ := h
      have := pathC_le h1
      rw [cst_self] at u3
      exact .inl ⟨rfl, rfl, by omega, by rw [h1]; congr 1; omega⟩
     ·simp [e] at h
    ·by_cases s2 : s = 2
     ·subst s2
      by_cases e : x = y
      ·simp [e] at h
      ·simp [e] at h
       obtain ⟨m, h1, h2⟩ := h
       have := pathC_le h1
       have hc : cst x y = 1 := by unfold cst; rw [if_neg e]
       exact .inr (.inl ⟨rfl, e, by omega, by rw [h1]; congr 1; omega⟩)
     ·by_cases s3 : s = 3
      ·subst s3
       simp at h
       obtain ⟨m, h1, h2⟩ := h
       have := pathC_le h1
       exact .inr (.inr (.inl ⟨rfl, by omega, by rw [h1]; congr 1; omega⟩))
      ·by_cases s4 : s = 4
       ·subst s4
        simp at h
        obtain ⟨m, h1, h2⟩ := h
        have := pathC_le h1
        exact .inr (.inr (.inr ⟨rfl, by omega, by rw [h1]; congr 1; omega⟩))
       ·simp [s1, s2, s3, s4] at h
   rw [alF_cc]
   rcases key with ⟨rfl, k1, k2, k3⟩ | ⟨rfl, k1, k2, k3⟩ | ⟨rfl, k1, k2⟩ | ⟨rfl, k1, k2⟩
   ·rw [if_pos ⟨k1, k2⟩]; simp [beforeL, i1 r k3]
   ·rw [if_neg (fun c => k1 c.1), if_pos ⟨k1, k2⟩]; simp [beforeL, i1 r k3]
   ·split
    ·simp [beforeL]
    ·split
     ·simp [beforeL]
     ·simp [beforeL, i2 r k2]
   ·split
    ·simp [beforeL]
    ·split
     ·simp [beforeL]
     ·split
      ·simp [beforeL]
      ·simp [beforeL, i3 r k2]
def turnS (s : Int) : Int := if s = 3 then 4 else if s = 4 then 3 else s
theorem pathC_turn : ∀ {l : List Int} {a b : List Wd} {n : Int}, pathC l a b = some n → pathC (l.map turnS) b a = some n
 | [], a, b, n, h => by
  simp only [pathC, List.map_nil] at h ⊢
  split at h
  ·rename_i e; rw [if_pos ⟨e.2, e.1⟩]; exact h
  ·cases h
 | s :: r, a, b, n, h => by
  simp only [pathC, List.map_cons] at h ⊢
  have hst : ∀ a' b' c, stepL s a b = some (a', b', c) → stepL (turnS s) b a = some (b', a', c) := by
   intro a' b' c hs
   cases a <;> cases b <;> simp only [stepL, turnS] at hs ⊢ <;> (repeat' split at hs) <;> simp_all <;> (try (obtain ⟨_, _, rfl⟩ := hs)) <;> simp_all <;> exact fun e => absurd e.symm (by assumption)
  cases hs : stepL s a b with
  | none => rw [hs] at h; cases h
  | some x =>
   obtain ⟨a', b', c⟩ := x
   rw [hs] at h
   rw [hst _ _ _ hs]
   simp only [Option.map_eq_some_iff] at h ⊢
   obtain ⟨m, h1, rfl⟩ := h
   exact ⟨m, pathC_turn h1, rfl⟩
end Go.Ab
namespace Go.Ab
open Go.Proofs
structure Sgn where
 text : Wd
 cells : List Int
 deriving DecidableEq
instance : Inhabited Sgn := ⟨⟨[], []⟩⟩
def eZ (x : Sgn) : List V := [.str x.text, R fl0 eI x.cells]
@[simp] theorem eZ_def (x : Sgn) : eZ x = [.str x.text, R fl0 eI x.cells] := rfl
instance : EncC eZ 2 := ⟨fun _ => rfl, by decide, fun _ => rfl, fun _ => by simp [eZ, V.closed.closedL, V.closed], fun _ => by simp [eZ, V.norm.normL, V.norm]⟩
def smZ (x : Sgn) : Prop := x.text.length < 1099511627776 ∧ x.cells.length < 1099511627776
def smZs (t : List Sgn) : Prop := t.length < 1099511627776 ∧ ∀ x ∈ t, smZ x
theorem smZs_nth {t : List Sgn} (h : smZs t) {i : Nat} (hi : i < t.length) : smZ (nth t i) := h.2 _ (nth_mem hi)
def dotB (n : Int) : Bool := decide (0 ≤ n ∧ n ≤ 63)
def dotsL (l : List Int) : Bool := l.all dotB
theorem dotsL_t {l : List Int} (h : ∀ j, j < l.length → dotB (nth l j) = true) : dotsL l = true := by
 unfold dotsL; rw [List.all_eq_true]
 intro x hx
 obtain ⟨j, hj, rfl⟩ := List.mem_iff_getElem.1 hx
 rw [← nth_eq hj]; exact h j hj
theorem dotsL_f {l : List Int} {j : Nat} (hj : j < l.length) (h : dotB (nth l j) = false) : dotsL l = false := by
 cases e : dotsL l with
 | false => rfl
 | true =>
  unfold dotsL at e
  rw [List.all_eq_true] at e
  rw [e _ (nth_mem hj)] at h; cases h
theorem dotsL_at {l : List Int} (h : dotsL l = true) {j : Nat} (hj : j < l.length) : 0 ≤ nth l j ∧ nth l j ≤ 63 := by
 unfold dotsL at h; rw [List.all_eq_true] at h
 exact of_decide_eq_true (h _ (nth_mem hj))
def sgnH (x : Sgn) : Bool := decide ((runesG x.text).2 = 0 ∧ 1 ≤ (runesG x.text).1.length ∧ (runesG x.text).1.length ≤ 4 ∧ 1 ≤ x.cells.length ∧ x.cells.length ≤ 4)
def sgnOk (x : Sgn) : Bool := sgnH x && dotsL x.cells
def freshZ (t : List Sgn) (i : Nat) : Bool := decide (∀ k, k < i → ¬ (nth t k).text = (nth t i).text)
def sgnAt (t : List Sgn) (i : Nat) : Bool := sgnOk (nth t i) && freshZ t i
def tabOk (t : List Sgn) : Bool := allTo t.length (sgnAt t)
def checkZ (t : List Sgn) : Int := if 64 < t.length then 2 else if t.length = 0 then 120 else if tabOk t = true then 0 else 120
theorem checkZ_many {t : List Sgn} (h : 64 < t.length) : checkZ t = 2 := if_pos h
theorem checkZ_bad {t : List Sgn} (h : ¬ 64 < t.length) {i : Nat} (hi : i < t.length) (hb : sgnAt t i = false) : checkZ t = 120 := by
 unfold checkZ tabOk
 rw [if_neg h, if_neg (by omega), allTo_false i hi hb]; rfl
theorem checkZ_empty {t : List Sgn} (h : t.length = 0) : checkZ t = 120 := by
 unfold checkZ
 rw [if_neg (by omega), if_pos h]
theorem checkZ_ok {t : List Sgn} (h : ¬ 64 < t.length) (h0 : ¬ t.length = 0) (ha : ∀ i, i < t.length → sgnAt t i = true) : checkZ t = 0 := by
 unfold checkZ tabOk
 rw [if_neg h, if_neg h0, if_pos (allTo_iff.2 ha)]
theorem checkZ_zero {t : List Sgn} (h : checkZ t = 0) : t.length ≤ 64 ∧ 0 < t.length ∧ ∀ i, i < t.length → sgnAt t i = true := by
 unfold checkZ at h
 split at h
 ·cases h
 ·split at h
  ·cases h
  ·split at h
   ·rename_i h1 h2 h3
    exact ⟨by omega, by omega, allTo_iff.1 h3⟩
   ·cases h
theorem sgnAt_of {t : List Sgn} {i : Nat} (h : sgnAt t i = true) : ((runesG (nth t i).text).2 = 0 ∧ 1 ≤ (runesG (nth t i).text).1.length ∧ (runesG (nth t i).text).1.length ≤ 4 ∧ 1 ≤ (nth t i).cells.length ∧ (nth t i).cells.length ≤ 4) ∧ dotsL (nth t i).cells = true ∧ ∀ k, k < i → ¬ (nth t k).text = (nth t i).text := by
 unfold sgnAt sgnOk sgnH freshZ at h
 simp only [Bool.and_eq_true, decide_eq_true_eq] at h
 exact ⟨h.1.1, h.1.2, h.2⟩
def mSn : Nat → List Wd → List (V × V × Nat)
 | _, [] => []
 | i, k :: l => (.str k, .bool true, i) :: mSn (i + 1) l
theorem mSn_app : ∀ (l : List Wd) (i : Nat) (s : Wd), mSn i l ++ [(V.str s, V.bool true, i + l.length)] = mSn i (l ++ [s])
 | [], i, s => rfl
 | k :: l, i, s => by
  have := mSn_app l (i + 1) s
  rw [mSn, List.cons_append, List.cons_append, mSn, ← this, List.length_cons, Nat.add_assoc i 1, Nat.add_comm 1]
theorem eqKey_strZ {P : Program} {kt : TypeId} (hk : P.underlying kt = some .string) (a b : Wd) : eqKey P kt (.str a) (.str b) = some (a == b) := by
 unfold eqKey; rw [hk]
theorem findK_Sn {P : Program} {kt : TypeId} (hk : P.underlying kt = some .string) (s : Wd) : ∀ (l : List Wd) (i : Nat),
  (s ∉ l ∧ findK P kt (.str s) (mSn i l) = some none) ∨ (s ∈ l ∧ ∃ j, findK P kt (.str s) (mSn i l) = some (some (j, .bool true, i + j)))
 | [], i => .inl ⟨by simp, rfl⟩
 | k :: l, i => by
  by_cases h : s = k
  ·subst h
   exact .inr ⟨by simp, 0, by rw [mSn, findK, eqKey_strZ hk]; simp⟩
  ·have hb : (s == k) = false := by rw [beq_eq_false_iff_ne]; exact h
   rcases findK_Sn hk s l (i + 1) with ⟨h1, h2⟩ | ⟨h1, j, h2⟩
   ·exact .inl ⟨by simp [h, h1], by rw [mSn, findK, eqKey_strZ hk, hb]; simp [h2]⟩
   ·refine .inr ⟨by simp [h1], j + 1, ?_⟩
    rw [mSn, findK, eqKey_strZ hk, hb]
    simp only [h2]
    rw [show i + 1 + j = i + (j + 1) by omega]
theorem lookup_Sn {P : Program} {h : Heap} {t kt et : TypeId} {a : Nat} {l : List Wd} (s : Wd) (ht : P.underlying t = some (.map kt et)) (hk : P.underlying kt = some .string) (hz : zeroV P et = some (.bool false)) (hb : h.bs[a]? = some (.map (mSn 0 l) l.length)) :
  lookupV P h t (.map a) (.str s) false = some (.bool (decide (s ∈ l))) := by
 unfold lookupV
 have hko : keyOk P kt (.str s) = true := by unfold keyOk; rw [hk]
 rw [ht]
 simp only [hko, hb]
 rcases findK_Sn hk s l 0 with ⟨h1, h2⟩ | ⟨h1, j, h2⟩
 ·rw [h2]; simp [hz, h1]
 ·rw [h2]; simp [h1]
theorem upd_Sn {P : Program} {h : Heap} {t kt et : TypeId} {a : Nat} {l : List Wd} (s : Wd) (hs : s ∉ l) (ht : P.underlying t = some (.map kt et)) (hk : P.underlying kt = some .string) (hb : h.bs[a]? = some (.map (mSn 0 l) l.length)) :
  mapUpdV P h t (.map a) (.str s) (.bool true) = some { h with bs := h.bs.set a (.map (mSn 0 (l ++ [s])) (l ++ [s]).length) } := by
 unfold mapUpdV
 have hko : keyOk P kt (.str s) = true := by unfold keyOk; rw [hk]
 rw [ht]
 have hc : (V.bool true).cellsO.isNone = false := rfl
 simp only [hko, hb, hc]
 rcases findK_Sn hk s l 0 with ⟨h1, h2⟩ | ⟨h1, j, h2⟩
 ·have := mSn_app l 0 s
  rw [Nat.zero_add] at this
  rw [h2]; simp [this]
 ·exact absurd h1 hs
def textsZ (t : List Sgn) : List Wd := t.map (·.text)
theorem mem_textsZ {t : List Sgn} {i : Nat} (hi : i ≤ t.length) {s : Wd} : s ∈ textsZ (t.take i) ↔ ∃ k, k < i ∧ (nth t k).text = s := by
 unfold textsZ
 rw [List.mem_map]
 constructor
 ·rintro ⟨x, hx, rfl⟩
  obtain ⟨k, hk, rfl⟩ := List.mem_iff_getElem.1 hx
  have hk2 : k < i := by rw [List.length_take] at hk; omega
  refine ⟨k, hk2, ?_⟩
  rw [List.getElem_take, ← nth_eq]
 ·rintro ⟨k, hk, rfl⟩
  refine ⟨nth t k, ?_, rfl⟩
  rw [← nth_take_lt hk]
  exact nth_mem (by rw [List.length_take]; omega)
theorem fresh_iff {t : List Sgn} {i : Nat} (hi : i ≤ t.length) : freshZ t i = !decide ((nth t i).text ∈ textsZ (t.take i)) := by
 unfold freshZ
 rw [Bool.eq_iff_iff]
 simp only [decide_eq_true_eq, Bool.not_eq_true', decide_eq_false_iff_not, mem_textsZ hi]
 constructor
 ·rintro h ⟨k, hk, e⟩; exact h k hk e
 ·intro h k hk e; exact h ⟨k, hk, e⟩
end Go.Ab
namespace Go.Ab
open Go.Proofs Go.Proofs.YtigmnglnedcfpaaGreatDoor
set_option maxRecDepth 100000
def szZ (x : Sgn) : Nat := x.text.length + x.cells.length
theorem rd_sign : Reads Tryz.prog 84 (fun _ : Sgn => True) eZ szZ := by
 have h := reads_struct (t := 84) (P := Tryz.prog) Tryz.underlying84 (readsF_cons rfl rd_string (readsF_cons (by kernel_rfl) rd_ints (readsF_nil _)))
 exact reads_congr h fun a _ => ⟨⟨a.1, a.2.1⟩, trivial, rfl, by simp [szZ, sum_one]⟩
theorem rd_signs : Reads Tryz.prog 26 (fun l : List Sgn => ∀ y ∈ l, True) (fun l => [R fl0 eZ l]) (fun l => (l.map fun x => szZ x + 1).sum) := reads_slice Tryz.underlying26 (by kernel_rfl) (by rw [show Tryz.prog.cellsOf 84 = 2 by kernel_rfl]; decide) rd_sign
theorem smZs_rd {r : List Sgn} (h : (r.map fun x => szZ x + 1).sum ≤ 1048576) : smZs r := by
 have h1 := sum_len (f := szZ) r
 refine ⟨by omega, fun c hc => ?_⟩
 have h2 := sum_mem (f := fun x => szZ x + 1) hc
 have h3 : szZ c = c.text.length + c.cells.length := rfl
 exact ⟨by omega, by omega⟩
end Go.Ab
