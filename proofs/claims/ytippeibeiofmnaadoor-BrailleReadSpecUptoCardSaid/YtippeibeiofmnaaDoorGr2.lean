/- A part of the proof. -/
import Derived.Test.YtippeibeiofmnaaDoorAbsD
import Derived.Test.YtippeibeiofmnaaDoorPT
set_option linter.unusedVariables false
set_option linter.unusedSimpArgs false
set_option linter.unusedSectionVars false
set_option linter.deprecated false
namespace Go.Ab
def allTo (n : Nat) (p : Nat → Bool) : Bool := (List.range n).all p
def anyTo (n : Nat) (p : Nat → Bool) : Bool := (List.range n).any p
def sumTo (n : Nat) (f : Nat → Int) : Int := ((List.range n).map f).sum
theorem allTo_zero (p : Nat → Bool) : allTo 0 p = true := rfl
theorem anyTo_zero (p : Nat → Bool) : anyTo 0 p = false := rfl
theorem sumTo_zero (f : Nat → Int) : sumTo 0 f = 0 := rfl
theorem allTo_succ (n : Nat) (p : Nat → Bool) : allTo (n + 1) p = (allTo n p && p n) := by
 unfold allTo; rw [List.range_succ, List.all_append]; simp
theorem anyTo_succ (n : Nat) (p : Nat → Bool) : anyTo (n + 1) p = (anyTo n p || p n) := by
 unfold anyTo; rw [List.range_succ, List.any_append]; simp
theorem sumTo_succ (n : Nat) (f : Nat → Int) : sumTo (n + 1) f = sumTo n f + f n := by
 unfold sumTo; rw [List.range_succ, List.map_append, List.sum_append]; simp
theorem allTo_iff {n : Nat} {p : Nat → Bool} : allTo n p = true ↔ ∀ i, i < n → p i = true := by
 unfold allTo; rw [List.all_eq_true]; simp
theorem anyTo_iff {n : Nat} {p : Nat → Bool} : anyTo n p = true ↔ ∃ i, i < n ∧ p i = true := by
 unfold anyTo; rw [List.any_eq_true]; simp
theorem allTo_false {n : Nat} {p : Nat → Bool} (i : Nat) (hi : i < n) (h : p i = false) : allTo n p = false := by
 cases hb : allTo n p with
 | false => rfl
 | true => rw [allTo_iff.1 hb i hi] at h; cases h
theorem anyTo_true {n : Nat} {p : Nat → Bool} (i : Nat) (hi : i < n) (h : p i = true) : anyTo n p = true := anyTo_iff.2 ⟨i, hi, h⟩
theorem anyTo_not {n : Nat} {p : Nat → Bool} (h : ∀ i, i < n → p i = false) : anyTo n p = false := by
 cases hb : anyTo n p with
 | false => rfl
 | true => obtain ⟨i, hi, hp⟩ := anyTo_iff.1 hb; rw [h i hi] at hp; cases hp
theorem allTo_next {n : Nat} {p : Nat → Bool} (h : allTo n p = true) (h2 : p n = true) : allTo (n + 1) p = true := by rw [allTo_succ, h, h2]; rfl
theorem allTo_and (n : Nat) (p q : Nat → Bool) : allTo n (fun i => p i && q i) = (allTo n p && allTo n q) := by
 induction n with
 | zero => rfl
 | succ n ih =>
  rw [allTo_succ, allTo_succ, allTo_succ, ih]
  cases allTo n p <;> cases allTo n q <;> cases p n <;> cases q n <;> rfl
theorem allTo_congr {n : Nat} {p q : Nat → Bool} (h : ∀ i, i < n → p i = q i) : allTo n p = allTo n q := by
 induction n with
 | zero => rfl
 | succ n ih => rw [allTo_succ, allTo_succ, ih (fun i hi => h i (by omega)), h n (by omega)]
theorem anyTo_congr {n : Nat} {p q : Nat → Bool} (h : ∀ i, i < n → p i = q i) : anyTo n p = anyTo n q := by
 induction n with
 | zero => rfl
 | succ n ih => rw [anyTo_succ, anyTo_succ, ih (fun i hi => h i (by omega)), h n (by omega)]
theorem sumTo_congr {n : Nat} {f g : Nat → Int} (h : ∀ i, i < n → f i = g i) : sumTo n f = sumTo n g := by
 induction n with
 | zero => rfl
 | succ n ih => rw [sumTo_succ, sumTo_succ, ih (fun i hi => h i (by omega)), h n (by omega)]
theorem sumTo_bound {n : Nat} {f : Nat → Int} {a b : Int} (ha : a ≤ 0) (hb : 0 ≤ b) (h : ∀ i, i < n → a ≤ f i ∧ f i ≤ b) : a * n ≤ sumTo n f ∧ sumTo n f ≤ b * n := by
 induction n with
 | zero => simp [sumTo_zero]
 | succ n ih =>
  have h1 := ih (fun i hi => h i (by omega))
  have h2 := h n (by omega)
  rw [sumTo_succ]
  have e1 : a * ((n + 1 : Nat) : Int) = a * n + a := by rw [Int.natCast_add, Int.mul_add]; simp
  have e2 : b * ((n + 1 : Nat) : Int) = b * n + b := by rw [Int.natCast_add, Int.mul_add]; simp
  omega
def firstTo (n : Nat) (p : Nat → Bool) : Nat := ((List.range n).find? p).getD n
theorem findTo_none {n : Nat} {p : Nat → Bool} (h : ∀ i, i < n → p i = false) : (List.range n).find? p = none := by
 rw [List.find?_eq_none]; intro i hi; simp at hi; rw [h i hi]; simp
theorem findTo_some {n i : Nat} {p : Nat → Bool} (hi : i < n) (h : p i = true) (hb : ∀ j, j < i → p j = false) : (List.range n).find? p = some i := by
 rw [List.find?_range_eq_some]
 exact ⟨h, by simpa using hi, fun j hj => by rw [hb j hj]; rfl⟩
end Go.Ab
namespace Go.Ab
abbrev Wd := List UInt8
def cst (x y : Wd) : Int := if x = y then 0 else 1
theorem cst_bound (x y : Wd) : 0 ≤ cst x y ∧ cst x y ≤ 1 := by unfold cst; split <;> omega
theorem cst_self (x : Wd) : cst x x = 0 := by unfold cst; rw [if_pos rfl]
theorem cst_comm (x y : Wd) : cst x y = cst y x := by
 unfold cst
 by_cases h : x = y
 ·rw [if_pos h, if_pos h.symm]
 ·rw [if_neg h, if_neg (fun e => h e.symm)]
theorem cst_tri (x y z : Wd) : cst x z ≤ cst x y + cst y z := by
 unfold cst
 by_cases h1 : x = y
 ·subst h1; simp
 ·have : (0 : Int) ≤ if y = z then 0 else 1 := by split <;> omega
  rw [if_neg h1]
  split <;> omega
def lev : List Wd → List Wd → Int
 | [], [] => 0
 | _ :: a, [] => 1 + lev a []
 | [], _ :: b => 1 + lev [] b
 | x :: a, y :: b => min (min (cst x y + lev a b) (1 + lev a (y :: b))) (1 + lev (x :: a) b)
termination_by a b => a.length + b.length
theorem lev_nn : lev [] [] = 0 := by rw [lev]
theorem lev_cn (x : Wd) (a : List Wd) : lev (x :: a) [] = 1 + lev a [] := by rw [lev]
theorem lev_nc (y : Wd) (b : List Wd) : lev [] (y :: b) = 1 + lev [] b := by rw [lev]
theorem lev_cc (x y : Wd) (a b : List Wd) : lev (x :: a) (y :: b) = min (min (cst x y + lev a b) (1 + lev a (y :: b))) (1 + lev (x :: a) b) := by rw [lev]
inductive Al : List Wd → List Wd → Int → Prop
 | nil : Al [] [] 0
 | both {a b : List Wd} {n : Int} (x y : Wd) (h : Al a b n) : Al (x :: a) (y :: b) (cst x y + n)
 | less {a b : List Wd} {n : Int} (x : Wd) (h : Al a b n) : Al (x :: a) b (1 + n)
 | more {a b : List Wd} {n : Int} (y : Wd) (h : Al a b n) : Al a (y :: b) (1 + n)
theorem lev_Al (a b : List Wd) : Al a b (lev a b) := by
 induction a, b using lev.induct with
 | case1 => rw [lev_nn]; exact .nil
 | case2 x a ih => rw [lev_cn]; exact .less x ih
 | case3 y b ih => rw [lev_nc]; exact .more y ih
 | case4 x a y b ih1 ih2 ih3 =>
  rw [lev_cc]
  rcases Int.le_total (min (cst x y + lev a b) (1 + lev a (y :: b))) (1 + lev (x :: a) b) with h | h
  ·rw [Int.min_eq_left h]
   rcases Int.le_total (cst x y + lev a b) (1 + lev a (y :: b)) with h2 | h2
   ·rw [Int.min_eq_left h2]; exact .both x y ih1
   ·rw [Int.min_eq_right h2]; exact .less x ih2
  ·rw [Int.min_eq_right h]; exact .more y ih3
theorem lev_less (x : Wd) (a b : List Wd) : lev (x :: a) b ≤ 1 + lev a b := by
 cases b with
 | nil => rw [lev_cn]; omega
 | cons y b => rw [lev_cc]; omega
theorem lev_more (y : Wd) (a b : List Wd) : lev a (y :: b) ≤ 1 + lev a b := by
 cases a with
 | nil => rw [lev_nc]; omega
 | cons x a => rw [lev_cc]; omega
theorem lev_both (x y : Wd) (a b : List Wd) : lev (x :: a) (y :: b) ≤ cst x y + lev a b := by rw [lev_cc]; omega
theorem lev_le {a b : List Wd} {n : Int} (h : Al a b n) : lev a b ≤ n := by
 induction h with
 | nil => rw [lev_nn]; omega
 | @both a b n x y _ ih => have := lev_both x y a b; omega
 | @less a b n x _ ih => have := lev_less x a b; omega
 | @more a b n y _ ih => have := lev_more y a b; omega
theorem Al.swap {a b : List Wd} {n : Int} (h : Al a b n) : Al b a n := by
 induction h with
 | nil => exact .nil
 | both x y _ ih => rw [cst_comm]; exact .both y x ih
 | less x _ ih => exact .more x ih
 | more y _ ih => exact .less y ih
theorem Al.app {a b c d : List Wd} {n m : Int} (h : Al a b n) (k : Al c d m) : Al (a ++ c) (b ++ d) (n + m) := by
 induction h with
 | nil => simpa using k
 | both x y _ ih => rw [Int.add_assoc]; exact .both x y ih
 | less x _ ih => rw [Int.add_assoc]; exact .less x ih
 | more y _ ih => rw [Int.add_assoc]; exact .more y ih
theorem Al.cast {a b : List Wd} {n m : Int} (h : Al a b n) (e : n = m) : Al a b m := e ▸ h
theorem Al.rev {a b : List Wd} {n : Int} (h : Al a b n) : Al a.reverse b.reverse n := by
 induction h with
 | nil => exact .nil
 | both x y _ ih => rw [List.reverse_cons, List.reverse_cons]; exact (ih.app (.both x y .nil)).cast (by omega)
 | less x _ ih => rw [List.reverse_cons]; have := ih.app (.less x .nil); rw [List.append_nil] at this; exact this.cast (by omega)
 | more y _ ih => rw [List.reverse_cons]; have := ih.app (.more y .nil); rw [List.append_nil] at this; exact this.cast (by omega)
theorem Al.nonneg {a b : List Wd} {n : Int} (h : Al a b n) : 0 ≤ n := by
 induction h with
 | nil => omega
 | both x y _ ih => have := cst_bound x y; omega
 | less x _ ih => omega
 | more y _ ih => omega
theorem lev_nonneg (a b : List Wd) : 0 ≤ lev a b := (lev_Al a b).nonneg
theorem lev_comm (a b : List Wd) : lev a b = lev b a := by
 have h1 := lev_le (lev_Al a b).swap
 have h2 := lev_le (lev_Al b a).swap
 omega
theorem lev_rev (a b : List Wd) : lev a.reverse b.reverse = lev a b := by
 have h1 := lev_le (lev_Al a b).rev
 have h2 := lev_le (lev_Al a.reverse b.reverse).rev
 rw [List.reverse_reverse, List.reverse_reverse] at h2
 omega
theorem lev_diff {a b : List Wd} {n : Int} (h : Al a b n) : (a.length : Int) - b.length ≤ n ∧ (b.length : Int) - a.length ≤ n := by
 induction h with
 | nil => simp
 | both x y _ ih => have := cst_bound x y; simp at ih ⊢; omega
 | less x _ ih => simp at ih ⊢; omega
 | more y _ ih => simp at ih ⊢; omega
theorem lev_max (a b : List Wd) : lev a b ≤ max (a.length : Int) (b.length : Int) := by
 induction a, b using lev.induct with
 | case1 => rw [lev_nn]; simp
 | case2 x a ih => rw [lev_cn]; simp at ih ⊢; omega
 | case3 y b ih => rw [lev_nc]; simp at ih ⊢; omega
 | case4 x a y b ih1 ih2 ih3 =>
  have := lev_both x y a b
  have := cst_bound x y
  simp at ih1 ⊢; omega
theorem lev_self (a : List Wd) : lev a a = 0 := by
 induction a with
 | nil => exact lev_nn
 | cons x a ih =>
  have := lev_both x x a a
  have h2 := lev_nonneg (x :: a) (x :: a)
  rw [cst_self, ih] at this; omega
theorem lev_zero {a b : List Wd} (h : lev a b = 0) : a = b := by
 have key : ∀ {a b : List Wd} {n : Int}, Al a b n → n = 0 → a = b := by
  intro a b n h
  induction h with
  | nil => intro _; rfl
  | both x y h ih =>
   intro e
   have := cst_bound x y
   have := h.nonneg
   have hx : cst x y = 0 := by omega
   have : x = y := by
    unfold cst at hx
    split at hx
    ·assumption
    ·omega
   rw [this, ih (by omega)]
  | less x h ih => intro e; have := h.nonneg; omega
  | more y h ih => intro e; have := h.nonneg; omega
 exact key (lev_Al a b) h
theorem Al.tri {b c : List Wd} {m : Int} (k : Al b c m) : ∀ {a : List Wd} {n : Int}, Al a b n → ∃ p, Al a c p ∧ p ≤ n + m := by
 induction k with
 | nil => intro a n h; exact ⟨n, h, by omega⟩
 | more y k ih =>
  intro a n h
  obtain ⟨p, h1, h2⟩ := ih h
  exact ⟨1 + p, .more y h1, by omega⟩
 | @both b c m y z k ih =>
  intro a n h
  generalize hb : y :: b = yb at h
  induction h with
  | nil => cases hb
  | @both a b' n x y' h _ =>
   cases hb
   obtain ⟨p, h1, h2⟩ := ih h
   exact ⟨cst x z + p, .both x z h1, by have := cst_tri x y z; omega⟩
  | less x h ih2 =>
   obtain ⟨p, h1, h2⟩ := ih2 hb
   exact ⟨1 + p, .less x h1, by omega⟩
  | more y' h _ =>
   cases hb
   obtain ⟨p, h1, h2⟩ := ih h
   exact ⟨1 + p, .more z h1, by have := cst_bound y z; omega⟩
 | @less b c m y k ih =>
  intro a n h
  generalize hb : y :: b = yb at h
  induction h with
  | nil => cases hb
  | @both a b' n x y' h _ =>
   cases hb
   obtain ⟨p, h1, h2⟩ := ih h
   exact ⟨1 + p, .less x h1, by have := cst_bound x y; omega⟩
  | less x h ih2 =>
   obtain ⟨p, h1, h2⟩ := ih2 hb
   exact ⟨1 + p, .less x h1, by omega⟩
  | more y' h _ =>
   cases hb
   obtain ⟨p, h1, h2⟩ := ih h
   exact ⟨p, h1, by omega⟩
theorem lev_tri (a b c : List Wd) : lev a c ≤ lev a b + lev b c := by
 obtain ⟨p, h1, h2⟩ := (lev_Al b c).tri (lev_Al a b)
 have := lev_le h1
 omega
theorem lev_one_a (x : Wd) (a b : List Wd) : lev a b ≤ 1 + lev (x :: a) b := by
 have h1 := lev_tri a (x :: a) b
 have h2 := lev_more x a a
 rw [lev_self] at h2
 omega
theorem lev_cons (x : Wd) (a b : List Wd) : lev (x :: a) (x :: b) = lev a b := by
 have h1 := lev_both x x a b
 rw [cst_self] at h1
 have h2 := lev_one_a x a b
 have h3 := lev_one_a x b a
 rw [lev_comm b a, lev_comm (x :: b) a] at h3
 rw [lev_cc, cst_self]; omega
theorem lev_pre (p a b : List Wd) : lev (p ++ a) (p ++ b) = lev a b := by
 induction p with
 | nil => rfl
 | cons x p ih => rw [List.cons_append, List.cons_append, lev_cons, ih]
theorem lev_suf (s a b : List Wd) : lev (a ++ s) (b ++ s) = lev a b := by
 rw [← lev_rev, List.reverse_append, List.reverse_append, lev_pre, lev_rev]
theorem lev_last (x : Wd) (a b : List Wd) : lev (a ++ [x]) b ≤ lev a b + 1 ∧ lev a b ≤ lev (a ++ [x]) b + 1 := by
 have h1 := lev_less x a.reverse b.reverse
 have h2 := lev_one_a x a.reverse b.reverse
 have e : lev (x :: a.reverse) b.reverse = lev (a ++ [x]) b := by
  have := lev_rev (a ++ [x]) b
  rw [List.reverse_append] at this
  exact this
 rw [e, lev_rev] at h1 h2
 omega
def stepL (s : Int) : List Wd → List Wd → Option (List Wd × List Wd × Int)
 | x :: a, y :: b => if s = 1 then (if x = y then some (a, b, 0) else none) else if s = 2 then (if x = y then none else some (a, b, 1)) else if s = 3 then some (a, y :: b, 1) else if s = 4 then some (x :: a, b, 1) else none
 | x :: a, [] => if s = 3 then some (a, [], 1) else none
 | [], y :: b => if s = 4 then some ([], b, 1) else none
 | [], [] => none
def pathC : List Int → List Wd → List Wd → Option Int
 | [], a, b => if a = [] ∧ b = [] then some 0 else none
 | s :: r, a, b => match stepL s a b with
  | some (a', b', c) => (pathC r a' b').map (c + ·)
  | none => none
theorem stepL_Al {s : Int} {a b a' b' : List Wd} {c n : Int} (h : stepL s a b = some (a', b', c)) (k : Al a' b' n) : Al a b (c + n) := by
 cases a with
 | nil => cases b with
  | nil => cases h
  | cons y b =>
   simp only [stepL] at h
   split at h
   ·cases h; exact .more y k
   ·cases h
 | cons x a => cases b with
  | nil =>
   simp only [stepL] at h
   split at h
   ·cases h; exact .less x k
   ·cases h
  | cons y b =>
   simp only [stepL] at h
   split at h
   ·split at h
    ·rename_i e; cases h; subst e; exact (Al.both x x k).cast (by rw [cst_self])
    ·cases h
   ·split at h
    ·split at h
     ·cases h
     ·rename_i e; cases h; exact (Al.both x y k).cast (by unfold cst; rw [if_neg e])
    ·split at h
     ·cases h; exact .less x k
     ·split at h
      ·cases h; exact .more y k
      ·cases h
theorem pathC_Al : ∀ {l : List Int} {a b : List Wd} {n : Int}, pathC l a b = some n → Al a b n
 | [], a, b, n, h => by
  simp only [pathC] at h
  split at h
  ·rename_i e; obtain ⟨rfl, rfl⟩ := e; cases h; exact .nil
  ·cases h
 | s :: r, a, b, n, h => by
  simp only [pathC] at h
  cases hs : stepL s a b with
  | none => rw [hs] at h; cases h
  | some x =>
   obtain ⟨a', b', c⟩ := x
   rw [hs] at h
   simp only [Option.map_eq_some_iff] at h
   obtain ⟨m, h1, rfl⟩ := h
   exact stepL_Al hs (pathC_Al h1)
def alignF : List Wd → List Wd → List Int
 | [], [] => []
 | _ :: a, [] => 3 :: alignF a []
 | [], _ :: b => 4 :: alignF [] b
 | x :: a, y :: b => if x = y ∧ lev (x :: a) (y :: b) = lev a b then 1 :: alignF a b
  else if ¬ x = y ∧ lev (x :: a) (y :: b) = 1 + lev a b then 2 :: alignF a b
  else if lev (x :: a) (y :: b) = 1 + lev a (y :: b) then 3 :: alignF a (y :: b)
  else 4 :: alignF (x :: a) b
termination_by a b => a.length + b.length
theorem alF_nn : alignF [] [] = [] := by rw [alignF]
theorem alF_cn (x : Wd) (a : List Wd) : alignF (x :: a) [] = 3 :: alignF a [] := by rw [alignF]
theorem alF_nc (y : Wd) (b : List Wd) : alignF [] (y :: b) = 4 :: alignF [] b := by rw [alignF]
theorem alF_cc (x y : Wd) (a b : List Wd) : alignF (x :: a) (y :: b) = if x = y ∧ lev (x :: a) (y :: b) = lev a b then 1 :: alignF a b
  else if ¬ x = y ∧ lev (x :: a) (y :: b) = 1 + lev a b then 2 :: alignF a b
  else if lev (x :: a) (y :: b) = 1 + lev a (y :: b) then 3 :: alignF a (y :: b)
  else 4 :: alignF (x :: a) b := by rw [alignF]
theorem alF_ind {P : List Wd → List Wd → Prop} (h0 : P [] []) (h1 : ∀ x a, P a [] → P (x :: a) []) (h2 : ∀ y b, P [] b → P [] (y :: b)) (h3 : ∀ x a y b, P a b → P a (y :: b) → P (x :: a) b → P (x :: a) (y :: b)) (a b : List Wd) : P a b := by
 induction a, b using lev.induct with
 | case1 => exact h0
 | case2 x a ih => exact h1 x a ih
 | case3 y b ih => exact h2 y b ih
 | case4 x a y b ih1 ih2 ih3 => exact h3 x a y b ih1 ih2 ih3
theorem lev_cases (x y : Wd) (a b : List Wd) : (x = y ∧ lev (x :: a) (y :: b) = lev a b) ∨ (¬ x = y ∧ lev (x :: a) (y :: b) = 1 + lev a b) ∨ lev (x :: a) (y :: b) = 1 + lev a (y :: b) ∨ lev (x :: a) (y :: b) = 1 + lev (x :: a) b := by
 have h := lev_cc x y a b
 by_cases e : x = y
 ·subst e
  exact .inl ⟨rfl, lev_cons x a b⟩
 ·have hc : cst x y = 1 := by unfold cst; rw [if_neg e]
  rw [hc] at h
  have : lev (x :: a) (y :: b) = 1 + lev a b ∨ lev (x :: a) (y :: b) = 1 + lev a (y :: b) ∨ lev (x :: a) (y :: b) = 1 + lev (x :: a) b := by omega
  rcases this with h | h | h
  ·exact .inr (.inl ⟨e, h⟩)
  ·exact .inr (.inr (.inl h))
  ·exact .inr (.inr (.inr h))
theorem alF_path (a b : List Wd) : pathC (alignF a b) a b = some (lev a b) := by
 refine alF_ind (P := fun a b => pathC (alignF a b) a b = some (lev a b)) ?_ ?_ ?_ ?_ a b
 ·rw [alF_nn, lev_nn]; rfl
 ·intro x a ih; rw [alF_cn, lev_cn]; simp [pathC, stepL, ih]
 ·intro y b ih; rw [alF_nc, lev_nc]; simp [pathC, stepL, ih]
 ·intro x a y b i1 i2 i3
  rw [alF_cc]
  have hl := lev_cases x y a b
  by_cases c1 : x = y ∧ lev (x :: a) (y :: b) = lev a b
  ·rw [if_pos c1]; simp [pathC, stepL, i1, c1.1]
   have := c1.2; rw [c1.1] at this; omega
  ·rw [if_neg c1]
   by_cases c2 : ¬ x = y ∧ lev (x :: a) (y :: b) = 1 + lev a b
   ·rw [if_pos c2]; simp [pathC, stepL, i1, c2.1]
    omega
   ·rw [if_neg c2]
    by_cases c3 : lev (x :: a) (y :: b) = 1 + lev a (y :: b)
    ·rw [if_pos c3]; simp [pathC, stepL, i2]; omega
    ·rw [if_neg c3]; simp [pathC, stepL, i3]
     rcases hl with h | h | h | h
     ·exact absurd h c1
     ·exact absurd h c2
     ·exact absurd h c3
     ·omega
def beforeL : List Int → List Int → Bool
 | [], [] => false
 | [], _ :: _ => true
 | _ :: _, [] => false
 | x :: a, y :: b => if x = y then beforeL a b else decide (x < y)
theorem pathC_le {l : List Int} {a b : List Wd} {n : Int} (h : pathC l a b = some n) : lev a b ≤ n := lev_le (pathC_Al h)
theorem alF_first (a b : List Wd) : ∀ l : List Int, pathC l a b = some (lev a b) → beforeL l (alignF a b) = false := by
 refine alF_ind (P := fun a b => ∀ l : List Int, pathC l a b = some (lev a b) → beforeL l (alignF a b) = false) ?_ ?_ ?_ ?_ a b
 ·intro l _; rw [alF_nn]; cases l <;> rfl
 ·intro x a ih l h
  rw [alF_cn]
  cases l with
  | nil => simp [pathC] at h
  | cons s r =>
   simp only [pathC, stepL] at h
   split at h
   ·rename_i hs
    split at hs
    ·cases hs
     rename_i e
     rw [lev_cn] at h
     simp only [Option.map_eq_some_iff] at h
     obtain ⟨m, h1, h2⟩ := h
     have : m = lev a [] := by omega
     subst this
     simp [beforeL, e, ih r h1]
    ·cases hs
   ·cases h
 ·intro y b ih l h
  rw [alF_nc]
  cases l with
  | nil => simp [pathC] at h
  | cons s r =>
   simp only [pathC, stepL] at h
   split at h
   ·rename_i hs
    split at hs
    ·cases hs
     rename_i e
     rw [lev_nc] at h
     simp only [Option.map_eq_some_iff] at h
     obtain ⟨m, h1, h2⟩ := h
     have : m = lev [] b := by omega
     subst this
     simp [beforeL, e, ih r h1]
    ·cases hs
   ·cases h
 ·intro x a y b i1 i2 i3 l h
  cases l with
  | nil => simp [pathC] at h
  | cons s r =>
   have hl := lev_cases x y a b
   have u1 : lev (x :: a) (y :: b) ≤ 1 + lev a (y :: b) := lev_less x a (y :: b)
   have u2 : lev (x :: a) (y :: b) ≤ 1 + lev (x :: a) b := lev_more y (x :: a) b
   have u3 := lev_both x y a b
   have key : (s = 1 ∧ x = y ∧ lev (x :: a) (y :: b) = lev a b ∧ pathC r a b = some (lev a b)) ∨
     (s = 2 ∧ ¬ x = y ∧ lev (x :: a) (y :: b) = 1 + lev a b ∧ pathC r a b = some (lev a b)) ∨
     (s = 3 ∧ lev (x :: a) (y :: b) = 1 + lev a (y :: b) ∧ pathC r a (y :: b) = some (lev a (y :: b))) ∨
     (s = 4 ∧ lev (x :: a) (y :: b) = 1 + lev (x :: a) b ∧ pathC r (x :: a) b = some (lev (x :: a) b)) := by
    simp only [pathC, stepL] at h
    by_cases s1 : s = 1
    ·subst s1
     by_cases e : x = y
     ·subst e
      simp only [if_true, Option.map_eq_some_iff] at h
      obtain ⟨m, h1, h2⟩ := h
      have := pathC_le h1
      rw [cst_self] at u3
      exact .inl ⟨rfl, rfl, by omega, by rw [h1]; congr 1; omega⟩
     ·simp [e] at h
    ·by_cases s2 : s = 2
     ·subst s2
      by_cases e : x = y
      ·simp [e] at h
      ·simp [e] at h
       obtain ⟨m, h1, h2⟩ := h
       have := pathC_le h1
       have hc : cst x y = 1 := by unfold cst; rw [if_neg e]
       exact .inr (.inl ⟨rfl, e, by omega, by rw [h1]; congr 1; omega⟩)
     ·by_cases s3 : s = 3
      ·subst s3
       simp at h
       obtain ⟨m, h1, h2⟩ := h
       have := pathC_le h1
       exact .inr (.inr (.inl ⟨rfl, by omega, by rw [h1]; congr 1; omega⟩))
      ·by_cases s4 : s = 4
       ·subst s4
        simp at h
        obtain ⟨m, h1, h2⟩ := h
        have := pathC_le h1
        exact .inr (.inr (.inr ⟨rfl, by omega, by rw [h1]; congr 1; omega⟩))
       ·simp [s1, s2, s3, s4] at h
   rw [alF_cc]
   rcases key with ⟨rfl, k1, k2, k3⟩ | ⟨rfl, k1, k2, k3⟩ | ⟨rfl, k1, k2⟩ | ⟨rfl, k1, k2⟩
   ·rw [if_pos ⟨k1, k2⟩]; simp [beforeL, i1 r k3]
   ·rw [if_neg (fun c => k1 c.1), if_pos ⟨k1, k2⟩]; simp [beforeL, i1 r k3]
   ·split
    ·simp [beforeL]
    ·split
     ·simp [beforeL]
     ·simp [beforeL, i2 r k2]
   ·split
    ·simp [beforeL]
    ·split
     ·simp [beforeL]
     ·split
      ·simp [beforeL]
      ·simp [beforeL, i3 r k2]
def turnS (s : Int) : Int := if s = 3 then 4 else if s = 4 then 3 else s
theorem pathC_turn : ∀ {l : List Int} {a b : List Wd} {n : Int}, pathC l a b = some n → pathC (l.map turnS) b a = some n
 | [], a, b, n, h => by
  simp only [pathC, List.map_nil] at h ⊢
  split at h
  ·rename_i e; rw [if_pos ⟨e.2, e.1⟩]; exact h
  ·cases h
 | s :: r, a, b, n, h => by
  simp only [pathC, List.map_cons] at h ⊢
  have hst : ∀ a' b' c, stepL s a b = some (a', b', c) → stepL (turnS s) b a = some (b', a', c) := by
   intro a' b' c hs
   cases a <;> cases b <;> simp only [stepL, turnS] at hs ⊢ <;> (repeat' split at hs) <;> simp_all <;> (try (obtain ⟨_, _, rfl⟩ := hs)) <;> simp_all <;> exact fun e => absurd e.symm (by assumption)
  cases hs : stepL s a b with
  | none => rw [hs] at h; cases h
  | some x =>
   obtain ⟨a', b', c⟩ := x
   rw [hs] at h
   rw [hst _ _ _ hs]
   simp only [Option.map_eq_some_iff] at h ⊢
   obtain ⟨m, h1, rfl⟩ := h
   exact ⟨m, pathC_turn h1, rfl⟩
end Go.Ab
namespace Go.Ab
set_option maxRecDepth 10000
structure Sgn where
 text : Wd
 cells : List Int
 deriving DecidableEq
instance : Inhabited Sgn := ⟨⟨[], []⟩⟩
def eZ (x : Sgn) : List V := [.str x.text, R fl0 eI x.cells]
@[simp] theorem eZ_def (x : Sgn) : eZ x = [.str x.text, R fl0 eI x.cells] := rfl
instance : EncC eZ 2 := ⟨fun _ => rfl, by decide, fun _ => rfl, fun _ => by simp [eZ, V.closed.closedL, V.closed], fun _ => by simp [eZ, V.norm.normL, V.norm]⟩
def smZ (x : Sgn) : Prop := x.text.length < 1099511627776 ∧ x.cells.length < 1099511627776
def smZs (t : List Sgn) : Prop := t.length < 1099511627776 ∧ ∀ x ∈ t, smZ x
def dotB (n : Int) : Bool := decide (0 ≤ n ∧ n ≤ 63)
def dotsL (l : List Int) : Bool := l.all dotB
def sgnH (x : Sgn) : Bool := decide ((runesG x.text).2 = 0 ∧ 1 ≤ (runesG x.text).1.length ∧ (runesG x.text).1.length ≤ 4 ∧ 1 ≤ x.cells.length ∧ x.cells.length ≤ 4)
def sgnOk (x : Sgn) : Bool := sgnH x && dotsL x.cells
def freshZ (t : List Sgn) (i : Nat) : Bool := decide (∀ k, k < i → ¬ (nth t k).text = (nth t i).text)
def sgnAt (t : List Sgn) (i : Nat) : Bool := sgnOk (nth t i) && freshZ t i
def tabOk (t : List Sgn) : Bool := allTo t.length (sgnAt t)
def checkZ (t : List Sgn) : Int := if 64 < t.length then 2 else if t.length = 0 then 120 else if tabOk t = true then 0 else 120
end Go.Ab
namespace Go.Ab
set_option maxRecDepth 10000
def preI (p s : List Int) : Bool := decide (p <+: s)
def neverZ : Int := 1048576
def stepZ (w x : List Int) : List Int × Int × Bool × Bool :=
 if preI x w then (w.drop x.length, 0, false, true)
 else if preI w x then (x.drop w.length, (x.length : Int) - w.length, true, true)
 else ([], 0, false, false)
inductive Ends (t : List Sgn) : List Int → Int → Prop
 | nil : Ends t [] 0
 | step {w : List Int} {k : Nat} {m : Int} : w ≠ [] → k < t.length → (stepZ w (nth t k).cells).2.2.2 = true → Ends t (stepZ w (nth t k).cells).1 m → Ends t w ((stepZ w (nth t k).cells).2.1 + m)
def IsCost (t : List Sgn) (w : List Int) (c : Int) : Prop := c ≤ neverZ ∧ (c = neverZ ∨ Ends t w c) ∧ ∀ n, Ends t w n → c ≤ n
theorem stepZ_nn (w x : List Int) : 0 ≤ (stepZ w x).2.1 := by
 unfold stepZ
 split
 ·simp
 ·split
  ·rename_i h
   have := (of_decide_eq_true h : w <+: x).length_le
   simp only; omega
  ·simp
theorem Ends.nn {t : List Sgn} {w : List Int} {n : Int} (h : Ends t w n) : 0 ≤ n := by
 induction h with
 | nil => omega
 | step _ _ _ _ ih => have := stepZ_nn (‹List Int›) (nth t (‹Nat›)).cells; omega
theorem IsCost.uniq {t : List Sgn} {w : List Int} {a b : Int} (ha : IsCost t w a) (hb : IsCost t w b) : a = b := by
 obtain ⟨a1, a2, a3⟩ := ha
 obtain ⟨b1, b2, b3⟩ := hb
 have h1 : a ≤ b := by
  rcases b2 with h | h
  ·omega
  ·exact a3 _ h
 have h2 : b ≤ a := by
  rcases a2 with h | h
  ·omega
  ·exact b3 _ h
 omega
theorem IsCost.ex (t : List Sgn) (w : List Int) : ∃ c, IsCost t w c := by
 have key : ∀ (n : Nat), (∃ m : Int, Ends t w m ∧ m ≤ n) → ∃ c : Int, Ends t w c ∧ ∀ m, Ends t w m → c ≤ m := by
  intro n
  induction n with
  | zero =>
   rintro ⟨m, hm, hl⟩
   refine ⟨m, hm, fun m' h' => ?_⟩
   have := h'.nn; omega
  | succ n ih =>
   rintro ⟨m, hm, hl⟩
   by_cases h : ∃ m : Int, Ends t w m ∧ m ≤ n
   ·exact ih h
   ·refine ⟨m, hm, fun m' h' => ?_⟩
    rcases Int.lt_or_le m' m with h2 | h2
    ·exact absurd ⟨m', h', by omega⟩ h
    ·exact h2
 by_cases h : ∃ m : Int, Ends t w m ∧ m ≤ neverZ
 ·obtain ⟨c, h1, h2⟩ := key 1048576 h
  refine ⟨c, ?_, .inr h1, h2⟩
  obtain ⟨m, hm, hl⟩ := h
  have := h2 m hm; omega
 ·refine ⟨neverZ, Int.le_refl _, .inl rfl, fun n hn => ?_⟩
  rcases Int.lt_or_le n neverZ with h2 | h2
  ·exact absurd ⟨n, hn, by omega⟩ h
  ·exact h2
noncomputable def costZ (t : List Sgn) (w : List Int) : Int := (IsCost.ex t w).choose
theorem costZ_is (t : List Sgn) (w : List Int) : IsCost t w (costZ t w) := (IsCost.ex t w).choose_spec
theorem costZ_of {t : List Sgn} {w : List Int} {c : Int} (h : IsCost t w c) : costZ t w = c := (costZ_is t w).uniq h
theorem costZ_nil (t : List Sgn) : costZ t [] = 0 := costZ_of ⟨by decide, .inr .nil, fun _ h => h.nn⟩
theorem costZ_nn (t : List Sgn) (w : List Int) : 0 ≤ costZ t w ∧ costZ t w ≤ neverZ := by
 obtain ⟨h1, h2, _⟩ := costZ_is t w
 refine ⟨?_, h1⟩
 rcases h2 with h | h
 ·rw [h]; decide
 ·exact h.nn
theorem costZ_step {t : List Sgn} {w : List Int} {k : Nat} (hk : k < t.length) (hw : w ≠ []) (h : (stepZ w (nth t k).cells).2.2.2 = true) : costZ t w ≤ (stepZ w (nth t k).cells).2.1 + costZ t (stepZ w (nth t k).cells).1 := by
 obtain ⟨h1, _, h3⟩ := costZ_is t w
 have hn := stepZ_nn w (nth t k).cells
 rcases (costZ_is t (stepZ w (nth t k).cells).1).2.1 with h2 | h2
 ·rw [h2]; omega
 ·exact h3 _ (.step hw hk h h2)
theorem cost_closed {t : List Sgn} {S : List Int → Prop} {c : List Int → Int} (h0 : c [] = 0) (hc : ∀ w, S w → w ≠ [] → c w = neverZ ∨ Ends t w (c w)) (hle : ∀ w, S w → c w ≤ neverZ)
  (hs : ∀ w k, S w → w ≠ [] → k < t.length → (stepZ w (nth t k).cells).2.2.2 = true → ((stepZ w (nth t k).cells).1 = [] ∨ S (stepZ w (nth t k).cells).1) ∧ c w ≤ (stepZ w (nth t k).cells).2.1 + c (stepZ w (nth t k).cells).1) :
  ∀ w, S w → w ≠ [] → c w = costZ t w := by
 have key : ∀ w n, Ends t w n → w = [] ∨ S w → c w ≤ n := by
  intro w n h
  induction h with
  | nil => intro _; omega
  | step hw hk hok _ ih =>
   intro hS
   rcases hS with h | hS
   ·exact absurd h hw
   ·obtain ⟨h1, h2⟩ := hs _ _ hS hw hk hok
    have := ih h1
    omega
 intro w hS hw
 exact (costZ_of ⟨hle w hS, hc w hS hw, fun n hn => key w n hn (.inr hS)⟩).symm
def befZ : List Int → List Int → Bool
 | [], [] => false
 | [], _ :: _ => true
 | _ :: _, [] => false
 | a :: x, b :: y => if a = b then befZ x y else decide (a < b)
def lessZ (p q : List Int × List Int) : Bool := befZ p.1 q.1 || (decide (p.1 = q.1) && befZ p.2 q.2)
def pickZ (b : Option (List Int × List Int)) (p : List Int × List Int) : Option (List Int × List Int) := match b with
 | none => some p
 | some q => if lessZ p q = true then some p else some q
def finF (t : List Sgn) (c : List Int → Int) : Nat → List Int → Bool → List Int × List Int
 | 0, _, _ => ([], [])
 | f + 1, w, a => if w = [] then ([], []) else
  ((List.range t.length).foldl (fun b (k : Nat) =>
   if (stepZ w (nth t k).cells).2.2.2 = true ∧ (stepZ w (nth t k).cells).2.1 + c (stepZ w (nth t k).cells).1 = c w then
    pickZ b (if a then ((finF t c f (stepZ w (nth t k).cells).1 (a != (stepZ w (nth t k).cells).2.2.1)).1, (k : Int) :: (finF t c f (stepZ w (nth t k).cells).1 (a != (stepZ w (nth t k).cells).2.2.1)).2)
     else ((k : Int) :: (finF t c f (stepZ w (nth t k).cells).1 (a != (stepZ w (nth t k).cells).2.2.1)).1, (finF t c f (stepZ w (nth t k).cells).1 (a != (stepZ w (nth t k).cells).2.2.1)).2))
   else b) none).getD ([], [])
def phiZ (c : List Int → Int) (w : List Int) : Nat := (2 * c w).toNat + w.length
def finZ (t : List Sgn) (c : List Int → Int) (w : List Int) (a : Bool) : List Int × List Int := finF t c (phiZ c w + 1) w a
def trySt (t : List Sgn) (c : List Int → Int) (i k : Nat) (b : Int × List Int × List Int) : Int × List Int × List Int :=
 let s := stepZ (nth t i).cells (nth t k).cells
 let n := ((nth t i).cells.length : Int) + s.2.1 + c s.1
 if s.2.2.2 = false ∨ neverZ ≤ n ∨ b.1 < n then b
 else
  let q := finZ t c s.1 (!s.2.2.1)
  let p := ((i : Int) :: q.1, (k : Int) :: q.2)
  if n < b.1 ∨ lessZ p (b.2.1, b.2.2) = true then (n, p.1, p.2) else b
def rowSt (t : List Sgn) (c : List Int → Int) (i m : Nat) (b : Int × List Int × List Int) : Int × List Int × List Int := (List.range m).foldl (fun b d => trySt t c i (i + 1 + d) b) b
def allSt (t : List Sgn) (c : List Int → Int) (m : Nat) : Int × List Int × List Int := (List.range m).foldl (fun b i => rowSt t c i (t.length - (i + 1)) b) (neverZ, [], [])
noncomputable def twiceZ (t : List Sgn) : List Int × List Int × Bool × Int :=
 if ¬ checkZ t = 0 then ([], [], false, checkZ t)
 else ((allSt t (costZ t) t.length).2.1, (allSt t (costZ t) t.length).2.2, decide ((allSt t (costZ t) t.length).1 < neverZ), 0)
def intsOf : List V → List Int
 | .int _ n :: l => n :: intsOf l
 | _ => []
def tabOf : List V → List Sgn
 | .str s :: .row _ _ cs _ _ :: l => ⟨s, intsOf cs⟩ :: tabOf l
 | _ => []
def tabV : V → List Sgn
 | .row _ _ cs _ _ => tabOf cs
 | _ => []
theorem intsOf_rows : ∀ l : List Int, intsOf (rows eI l) = l
 | [] => rfl
 | n :: l => by
  have := intsOf_rows l
  show n :: intsOf (rows eI l) = _
  rw [this]
theorem tabOf_rows : ∀ t : List Sgn, tabOf (rows eZ t) = t
 | [] => rfl
 | x :: t => by
  have := tabOf_rows t
  show Sgn.mk x.text (intsOf (rows eI x.cells)) :: tabOf (rows eZ t) = _
  rw [this, intsOf_rows]
theorem tabV_R (t : List Sgn) : tabV (R fl0 eZ t) = t := tabOf_rows t
noncomputable def twiceR (v : V) : CRes := .ret (.tuple [R fl0 eI (twiceZ (tabV v)).1, R fl0 eI (twiceZ (tabV v)).2.1, .bool (twiceZ (tabV v)).2.2.1, .int .i64 (twiceZ (tabV v)).2.2.2])
end Go.Ab
