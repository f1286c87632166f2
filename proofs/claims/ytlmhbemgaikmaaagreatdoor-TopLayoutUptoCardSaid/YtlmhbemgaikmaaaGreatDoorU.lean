
import Derived.Test.YtlmhbemgaikmaaaGreatDoorAbsD
set_option linter.unusedVariables false
set_option linter.unusedSimpArgs false
set_option linter.unusedSectionVars false
set_option linter.deprecated false
namespace Go.Ab
def allTo (n : Nat) (p : Nat → Bool) : Bool := (List.range n).all p
def anyTo (n : Nat) (p : Nat → Bool) : Bool := (List.range n).any p
def sumTo (n : Nat) (f : Nat → Int) : Int := ((List.range n).map f).sum
theorem allTo_zero (p : Nat → Bool) : allTo 0 p = true := rfl
theorem sumTo_zero (f : Nat → Int) : sumTo 0 f = 0 := rfl
theorem allTo_succ (n : Nat) (p : Nat → Bool) : allTo (n + 1) p = (allTo n p && p n) := by
 unfold allTo; rw [List.range_succ, List.all_append]; simp
theorem sumTo_succ (n : Nat) (f : Nat → Int) : sumTo (n + 1) f = sumTo n f + f n := by
 unfold sumTo; rw [List.range_succ, List.map_append, List.sum_append]; simp
theorem allTo_iff {n : Nat} {p : Nat → Bool} : allTo n p = true ↔ ∀ i, i < n → p i = true := by
 unfold allTo; rw [List.all_eq_true]; simp
theorem allTo_false {n : Nat} {p : Nat → Bool} (i : Nat) (hi : i < n) (h : p i = false) : allTo n p = false := by
 cases hb : allTo n p with
 | false => rfl
 | true => rw [allTo_iff.1 hb i hi] at h; cases h
theorem allTo_next {n : Nat} {p : Nat → Bool} (h : allTo n p = true) (h2 : p n = true) : allTo (n + 1) p = true := by rw [allTo_succ, h, h2]; rfl
theorem allTo_and (n : Nat) (p q : Nat → Bool) : allTo n (fun i => p i && q i) = (allTo n p && allTo n q) := by
 induction n with
 | zero => rfl
 | succ n ih =>
  rw [allTo_succ, allTo_succ, allTo_succ, ih]
  cases allTo n p <;> cases allTo n q <;> cases p n <;> cases q n <;> rfl
theorem sumTo_bound {n : Nat} {f : Nat → Int} {a b : Int} (ha : a ≤ 0) (hb : 0 ≤ b) (h : ∀ i, i < n → a ≤ f i ∧ f i ≤ b) : a * n ≤ sumTo n f ∧ sumTo n f ≤ b * n := by
 induction n with
 | zero => simp [sumTo_zero]
 | succ n ih =>
  have h1 := ih (fun i hi => h i (by omega))
  have h2 := h n (by omega)
  rw [sumTo_succ]
  have e1 : a * ((n + 1 : Nat) : Int) = a * n + a := by rw [Int.natCast_add, Int.mul_add]; simp
  have e2 : b * ((n + 1 : Nat) : Int) = b * n + b := by rw [Int.natCast_add, Int.mul_add]; simp
  omega
def firstTo (n : Nat) (p : Nat → Bool) : Nat := ((List.range n).find? p).getD n
theorem findTo_none {n : Nat} {p : Nat → Bool} (h : ∀ i, i < n → p i = false) : (List.range n).find? p = none := by
 rw [List.find?_eq_none]; intro i hi; simp at hi; rw [h i hi]; simp
theorem findTo_some {n i : Nat} {p : Nat → Bool} (hi : i < n) (h : p i = true) (hb : ∀ j, j < i → p j = false) : (List.range n).find? p = some i := by
 rw [List.find?_range_eq_some]
 exact ⟨h, by simpa using hi, fun j hj => by rw [hb j hj]; rfl⟩
end Go.Ab
